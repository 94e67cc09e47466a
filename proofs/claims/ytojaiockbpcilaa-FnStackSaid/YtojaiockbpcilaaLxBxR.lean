/- A part of the proof of the statement in the row text. -/
import Derived.Test.YtojaiockbpcilaaLxStoD
/- A box's nil slice, told as an owned slice without rows. -/
set_option linter.unusedVariables false
set_option linter.unusedSimpArgs false
namespace Go.LX
section
variable {σ : St}
def St.ownNl (σ : St) (q id j : Nat) (e : TypeId) (t : Ty) (cs : List C) : St := (σ.setO id (.rows e t true [])).setO q (.cells (cs.set j (.rf id .ar)))
theorem Wk_nl [Glob] {q id j : Nat} (e : TypeId) (t : Ty) {cs : List C} (hq : σ.objs q = some (.cells cs)) (hj : cs[j]? = some .nl) (hid : σ.objs id = none) (h1000 : Nat.ble 1000 id = true) : Wk σ (σ.ownNl q id j e t cs) := by
  intro K w I g tm hi
  have hid' : (1000 : Nat) ≤ id := Nat.le_of_ble_eq_true h1000
  have hn := hi.newRows (o := id) (e := e) (t := t) (dp := true) (xs := []) (v := .slice none 0 0) (L := []) hid (fun v hv => absurd hv ((hi.noE' hid').2 v)) (hi.noE' hid').1 List.nodup_nil (fun _ h => by simp at h)
    ⟨[], [], ⟨by simp, .inl ⟨rfl, rfl⟩⟩, ⟨rfl, rfl⟩, rfl⟩
  have hne : q ≠ id := fun he => by rw [he, hid] at hq; cases hq
  have hq' : (σ.setO id (.rows e t true [])).objs q = some (.cells cs) := by rw [St.setO_other _ _ _ _ hne]; exact hq
  obtain ⟨hL, hbx⟩ := hn.cells hq'
  refine ⟨I, _, hn.tellBox hq' (by simp) fun i c hc => ?_⟩
  by_cases e : i = j
  · subst e
    obtain ⟨u, h1, _, _, _, h5⟩ := hbx i .nl hj
    refine ⟨u, h1, ?_⟩
    have hlt : i < cs.length := (List.getElem?_eq_some_iff.1 hj).1
    rw [List.getElem?_set_self (by simpa using hlt)] at hc
    cases hc
    show seeO _ _ _ _ _ ((σ.setO id _).objs id) _ _
    rw [St.setO_same, Gh.setO_eq.2.1]
    exact h5
  · rw [List.getElem?_set_ne (Ne.symm e)] at hc
    obtain ⟨u, h1, _, _, _, h5⟩ := hbx i c hc
    exact ⟨u, h1, h5⟩
end
end Go.LX

/- Functions that hand back a pointer to a new box. -/
set_option linter.unusedVariables false
set_option linter.unusedSimpArgs false
namespace Go.LX

variable {P : Program} {σ : St}
/-- A new box, as a function hands it back. -/
def BoxNew (w w' : World) (I : Nat → Prop) (ds : List (Σ t : Ty, t.T)) (v : Value) : Prop :=
  ∃ b f, v = .pointer (some ⟨b, f, none⟩) ∧ w.heap.size ≤ b ∧ b < w'.heap.size ∧ ¬ I b ∧ ∀ (j : Nat) (c : Σ t : Ty, t.T), ds[j]? = some c → ∃ u, w'.cell? ⟨b, f + j, none⟩ = some u ∧ w'.frozen? ⟨b, f + j, none⟩ = false ∧ u.oneCell' = true ∧ RT w' I c.1 c.2 [u]
def FnBx [Glob] (P : Program) (f : FuncId) (args : List SA) (ds : List (Σ t : Ty, t.T)) : Prop :=
  ∀ (w : World) (I : Nat → Prop) (vals : List Value), (∀ b, I b → b < w.heap.size) ∧ GlobOK w I → ARs w I args vals [] [] →
    Calls P f vals.toArray w fun e w' => ∃ v, e = .returned v ∧ FrameC w w' [] [] ∧ ∃ I' : Nat → Prop, (∀ b, I b → I' b) ∧ (∀ b, I' b → b < w'.heap.size ∧ (b < w.heap.size → I b)) ∧ BoxNew w w' I' ds v
def EndBx (fn : Func) (ds : List (Σ t : Ty, t.T)) (e : Exit) (σ : St) : Prop :=
  finX e = true ∧ ∃ t o cs, fn.results = #[.tmp t] ∧ Nat.ble 1000 o = true ∧ σ.slots t = .one (.rf o (.pb 0)) ∧ σ.objs o = some (.cells cs) ∧ All2 (fun (c : Σ t : Ty, t.T) k => asT σ.objs c.1 k = some c.2) ds cs
theorem FnBx_of [Glob] {f : FuncId} {fn : Func} {c : Code} {args : List SA} {ds : List (Σ t : Ty, t.T)} (hf : P.funcs[f]? = some fn) (hb : fn.body = some c) (hn : Nat.ble args.length fn.ntmps = true) (hsz : szsOK args = true) (hW : W P c (EndBx fn ds) (St.enter fn.ntmps args)) : FnBx P f args ds := by
  intro w I vals hI hargs
  refine calls_of_wp hf hb ?_
  obtain ⟨g, hinv⟩ := Inv.enter (n := fn.ntmps) hI.1 hI.2 hargs (by simp) (by simp) hsz (Nat.le_of_ble_eq_true hn)
  have e0 : vals.toArray ++ Array.replicate (fn.ntmps - vals.toArray.size) undef = vals.toArray ++ Array.replicate (fn.ntmps - vals.length) undef := by simp
  rw [e0]
  refine wp_mono (hW _ w I _ _ hinv) ?_
  rintro e ⟨tm, df⟩ w' ⟨hd, σ', I', g', ⟨he, t, o, cs, hres, ho, hsl, hob, hall⟩, hi⟩
  obtain rfl : df = [] := hd
  have ho' : 1000 ≤ o := Nat.le_of_ble_eq_true ho
  have main : bodyPost P fn (fun e w' => ∃ v, e = .returned v ∧ FrameC w w' [] [] ∧ ∃ I' : Nat → Prop, (∀ b, I b → I' b) ∧ (∀ b, I' b → b < w'.heap.size ∧ (b < w.heap.size → I b)) ∧ BoxNew w w' I' ds v) .ret ⟨tm, []⟩ w' := by
    have hx : resOf P σ' (.tmp t) = some (false, [.rf o (.pb 0)]) := by simp only [resOf, hsl]
    obtain ⟨v, hv, h1, h2⟩ := res_val (P := P) hi hx
    have h1' : v.oneCell' = true := by simpa using h1
    have hrun : (results fn tm).run P w' = .ok v w' := by
      have e : fn.results = [ResultVar.tmp t].toArray := by rw [hres]
      unfold results
      rw [e]
      simp only [List.mapM_toArray, Sem.run_bind, Sem.run_map, Sem.run_pure]
      have : (([ResultVar.tmp t] : List ResultVar).mapM (resSem tm)).run P w' = .ok [v] w' := by
        rw [List.mapM_cons, Sem.run_bind, hv]
        rfl
      exact congrArg (fun r : Result (List Value) => (r.andThen fun a w' => Result.ok a.toArray w').andThen fun a w' => Result.ok (if h : a.size = 1 then a[0] else Value.tuple a) w') this
    obtain ⟨u, q1, q2, q3⟩ := h2 0 _ rfl
    have hu : u = v := by
      revert h1' q1
      cases v <;> simp [Value.oneCell', Value.cells] <;> exact fun h => h.symm
    subst hu
    have q4 : seeO w' I' (g'.addr o) (g'.base o) (g'.L o) (σ'.objs o) (.pb 0) u := q3
    rw [hob] at q4
    have q5 : u = .pointer (some ⟨(g'.addr o).1, (g'.addr o).2 + 0, none⟩) := q4
    obtain ⟨hL, hbx⟩ := hi.cells hob
    have hbm : (g'.addr o).1 ∈ g'.L o := by rw [hL]; simp
    obtain ⟨o1, o2, o3⟩ := hi.own o _ hbm
    have hge : w.heap.size ≤ (g'.addr o).1 := by
      refine Nat.le_of_not_lt fun hlt => ?_
      rcases o3 with hm | ⟨a, ha, _⟩
      · have := hm hlt
        exact absurd (show (g'.addr o).1 ∈ ([] : List Nat) from this) (by simp)
      · have := (hi.ext o a ha).1; omega
    refine ⟨rfl, u, hrun, u, rfl, ⟨hi.fr.os, hi.fr.tape, hi.fr.output, hi.fr.size, fun b h1 h2 h3 => hi.fr.old b h1 h2 ?_, fun b h1 h2 f h3 => hi.fr.part b h1 h2 f ?_, fun b h1 h2 f => hi.fr.froz b h1 h2 f⟩, I', hi.imm0, fun b hb => ⟨(hi.immX b hb).1, fun hlt => ?_⟩, (g'.addr o).1, (g'.addr o).2, q5, hge, o2, o1, fun j c hj => ?_⟩
    · rintro f ⟨r, hr, _⟩; simp at hr
    · rintro ⟨r, hr, _⟩; simp at hr
    · rcases (hi.immX b hb).2 hlt with h | h
      · exact h
      · exact absurd (show b ∈ ([] : List Nat) from h) (by simp)
    · obtain ⟨k, hk, hr⟩ := hall.get hj
      obtain ⟨v, v1, v2, v3, _, v5⟩ := hbx j k hk
      exact ⟨v, v1, v2, v3, asT_ok hi v5 hr⟩
  cases e <;> first | exact main | cases he
/-- A call of such a function, with data alone. -/
theorem op_callBx [Glob] {o : Oper} {t' : Nat} {f : FuncId} {xs : List Operand} {tys : Array TypeId} {args : List SA} {ds : List (Σ t : Ty, t.T)} {id : Nat} {N : St → Prop} (hF : FnBx P f args ds) (ho : o.op = .call { callee := .value (.func f), args := xs.toArray, argTypes := tys }) (hd : o.dst = some t') (ht : Nat.blt t' σ.n = true) (hf : fnB P f = true)
    (hargs : dPs false σ.objs args (xs.map σ.ev)) (hid : newO σ.objs t' = some id) (hN : N (σ.over [(t', .one (.rf id (.pb 0)))] [(id, some (.cells (ds.map fun c => .d c.1 c.2)))])) : OpW P o N σ := by
  intro K w I g tm hi
  rw [fnB_run ho hf]
  simp only [Oper.upon]
  refine (hF w I _ ⟨fun b hb => (hi.immX b hb).1, hi.glob⟩ (dPs_ok hi (fun _ h => h) (fun h => by cases h) hargs)).mono ?_
  rintro e w' ⟨v, rfl, hfc, I', hI1, hI2, b, fo, rfl, hb1, hb2, hb3, hcell⟩
  have hgr : Grow w w' fun _ => False := ⟨hfc.os, hfc.tape, hfc.output, hfc.size, fun b hb _ => hfc.old b hb (by simp) (by simp)⟩
  have hi1 := hi.scrib hgr fun _ h => h.elim
  have hi2 : Inv K w' I' g σ tm := hi1.widen hI1 fun b hb => by
    obtain ⟨q1, q2⟩ := hI2 b hb
    by_cases hlt : b < w.heap.size
    · exact .inl (q2 hlt)
    · exact .inr ⟨free_new hi (Nat.le_of_not_lt hlt), q1⟩
  have hfree : Free K I' g b := ⟨hb3, (free_new hi hb1).l, (free_new hi hb1).m⟩
  obtain ⟨hn1, hn2⟩ := newO_ok hid
  have hnb : ¬ b < K.w0.heap.size := Nat.not_lt.2 (Nat.le_trans hi.fr.size hb1)
  have hi3 : Inv K w' I' (g.setO id (b, fo) (g.base id) [b]) (σ.setO id (.cells (ds.map fun c => .d c.1 c.2))) tm := by
    refine hi2.one (Grow.refl w' fun _ => False) (fun _ h => h.elim) hi2.fr (fun _ h => h) (fun b hb => .inl hb) (by simp) (fun x hx => by simp at hx; subst hx; exact ⟨hb2, .inr hfree, .inl hfree.m⟩) (fun a ha => absurd ha ((hi2.noE' hn2).1 a)) (fun v hv => absurd hv ((hi2.noE' hn2).2 v)) ?_ fun hk hI => ?_
    · intro r u hs; rw [hn1] at hs; exact hs.elim
    · unfold ObR; rw [St.setO_same]; rw [Gh.setO_eq.1, Gh.setO_eq.2.2]
      refine ⟨rfl, fun j c hj => ?_⟩
      rw [Gh.setO_eq.1]
      simp only [List.getElem?_map, Option.map_eq_some_iff] at hj
      obtain ⟨d, hd, rfl⟩ := hj
      obtain ⟨u, h1, h2, h3, h4⟩ := hcell j d hd
      exact ⟨u, h1, h2, h3, fun hlt => absurd hlt hnb, h4⟩
  simp only [Act.put, hd]
  refine ⟨trivial, _, I', g.setO id (b, fo) (g.base id) [b], hN, ?_⟩
  rw [show σ.over [(t', .one (.rf id (.pb 0)))] [(id, some (.cells (ds.map fun c => .d c.1 c.2)))] = (σ.setO id (.cells (ds.map fun c => .d c.1 c.2))).put t' (.one (.rf id (.pb 0))) from rfl]
  refine hi3.put (Nat.le_of_ble_eq_true ht) rfl fun i c hc => ?_
  obtain ⟨rfl, rfl⟩ := one_cell hc
  refine ⟨_, rfl, ?_⟩
  show seeO _ _ _ _ _ ((σ.setO id _).objs id) _ _
  rw [St.setO_same, Gh.setO_eq.1]
  exact rfl
end Go.LX

