/- A part of the proof of the statement in the row text. -/
import Derived.Test.YtkpohcfohnmejaaGreatDoorLxUse
import Derived.Test.YtkpohcfohnmejaaGreatDoorLxCv
import Derived.Test.YtkpohcfohnmejaaGreatDoorLxNl
import Derived.Test.YtkpohcfohnmejaaGreatDoorLxClo
import Derived.Test.YtkpohcfohnmejaaGreatDoorLxNest
import Derived.Test.YtkpohcfohnmejaaGreatDoorLxCopy
import Derived.Laws.StructEq
/- Contracts that leave the results open: what a function hands back is one of many. -/
set_option linter.unusedVariables false
set_option linter.unusedSimpArgs false
namespace Go.LX

/-- What the function f does: for one r of which φ holds it leaves (post r) of its arguments and returns (res r). -/
def FnR [Glob] {R : Type} (P : Program) (f : FuncId) (args : List SA) (post : R → List SA) (res : R → RS) (φ : R → Prop) : Prop :=
  ∀ (w : World) (I : Nat → Prop) (vals : List Value) (L : List Nat) (B : List (Nat × Nat × Nat)), (∀ b, I b → b < w.heap.size) ∧ GlobOK w I → ARs w I args vals L B → (L ++ B.map (·.1)).Nodup → (∀ b ∈ L ++ B.map (·.1), ¬ I b ∧ b < w.heap.size) →
    Calls P f vals.toArray w (fun e w' => ∃ r, φ r ∧ FnPost args (post r) (res r) w I vals L B e w')
variable {P : Program} {σ : St}
theorem FnC.rel [Glob] {R : Type} {f : FuncId} {args : List SA} {post : R → List SA} {res : R → RS} {φ : R → Prop} {r : R} (h : FnC P f args (post r) (res r)) (hr : φ r) : FnR P f args post res φ :=
  fun w I vals L B h1 h2 h3 h4 => (h w I vals L B h1 h2 h3 h4).mono fun e w' he => ⟨r, hr, he⟩
theorem FnR.mono [Glob] {R : Type} {f : FuncId} {args : List SA} {post : R → List SA} {res : R → RS} {φ φ' : R → Prop} (h : FnR P f args post res φ) (hr : ∀ r, φ r → φ' r) : FnR P f args post res φ' :=
  fun w I vals L B h1 h2 h3 h4 => (h w I vals L B h1 h2 h3 h4).mono fun e w' ⟨r, hp, he⟩ => ⟨r, hr r hp, he⟩
variable {K : Ctx} {w w' : World} {I I' : Nat → Prop} {g : Gh} {tm : Array Value}
theorem op_callR [Glob] {R : Type} {φ : R → Prop} {o : Oper} {d : Option Nat} {f : FuncId} {xs : List Operand} {tys : Array TypeId} {args : List SA} {po : R → List SA} {rs : R → RS} {id : Nat} {N : St → Prop} (a : Bool) (hF : FnR P f args po rs φ) (ho : o.op = .call { callee := .value (.func f), args := xs.toArray, argTypes := tys }) (hd : o.dst = d) (ht : dstB σ.n d = true) (hf : fnB P f = true)
    (hargs : dPs a σ.objs args (xs.map σ.ev)) (hcl : ∀ r, (!a || (rs r).cells.all S0.closed) = true) (hid : ∀ r, newR σ.objs d (rs r).cells.length = some id) (hN : ∀ r, φ r → N ((enC id (rs r).cells σ).putD d ((rs r).svN id))) : OpW P o N σ := by
  intro K w I g tm hi
  rw [fnB_run ho hf]
  simp only [Oper.upon]
  have hS : ∃ S : Nat → Prop, (∀ b, S b → b < w.heap.size) ∧ (∀ b, I b → S b) ∧ (a = true → ∀ o b, b ∈ g.L o → S b) ∧ (a = false → S = I) := by
    cases a with
    | true => exact ⟨fun b => b < w.heap.size, fun _ h => h, fun b hb => (hi.immX b hb).1, fun _ o b hb => hi.ob_lt hb, (fun h => by cases h)⟩
    | false => exact ⟨I, fun b hb => (hi.immX b hb).1, fun _ h => h, (fun h => by cases h), fun _ => rfl⟩
  obtain ⟨S, hS1, hS2, hS3, hS4⟩ := hS
  refine (hF w S _ [] [] ⟨hS1, hi.glob.kept hS2 fun _ _ _ => rfl⟩ (dPs_ok hi hS2 hS3 hargs) (by simp) (fun b hb => by simp at hb)).mono ?_
  rintro e w' ⟨r0, hφ, v, rfl, hfc, I', L', Lr, hI1, hI2, hpost, hres, hnd, hown⟩
  specialize hcl r0
  specialize hid r0
  specialize hN r0 hφ
  generalize po r0 = post at *
  generalize rs r0 = res at *
  have hgr : Grow w w' fun _ => False := ⟨hfc.os, hfc.tape, hfc.output, hfc.size, fun b hb _ => hfc.old b hb (by simp) (by simp)⟩
  have hi1 := hi.scrib hgr fun _ h => h.elim
  obtain ⟨_, hnr, _⟩ := List.nodup_append.1 hnd
  have key : ∃ I2, Inv K w' I2 g σ tm ∧ RR0 w' I2 res v Lr ∧ ∀ b ∈ Lr, Free K I2 g b := by
    have hnew : ∀ b ∈ Lr, ¬ I' b ∧ w.heap.size ≤ b := fun b hb => by
      obtain ⟨q1, _, _, q4⟩ := hown b (by simp [hb])
      exact ⟨q1, Nat.le_of_not_lt fun hlt => by have := q4 hlt; simp at this⟩
    cases a with
    | true =>
      refine ⟨I, hi1, ⟨hres.1, hres.2.free (by simpa using hcl)⟩, fun b hb => free_new hi (hnew b hb).2⟩
    | false =>
      have hSI := hS4 rfl
      subst hSI
      refine ⟨I', hi1.widen hI1 fun b hb => ?_, hres, fun b hb => ?_⟩
      · obtain ⟨q1, q2⟩ := hI2 b hb
        by_cases hlt : b < w.heap.size
        · rcases q2 hlt with h | h
          · exact .inl h
          · simp at h
        · exact .inr ⟨free_new hi (Nat.le_of_not_lt hlt), q1⟩
      · obtain ⟨q1, q2⟩ := hnew b hb
        have := free_new hi q2
        exact ⟨q1, this.l, this.m⟩
  obtain ⟨I2, hi2, hr2, hf2⟩ := key
  obtain ⟨g', hfin⟩ := hi2.res hr2 hnr hf2 (newR_ok hid) ht
  cases d with
  | none => simp only [Act.put, hd]; exact ⟨trivial, _, _, _, hN, hfin⟩
  | some t => simp only [Act.put, hd]; exact ⟨trivial, _, _, _, hN, hfin⟩
theorem op_callBR [Glob] {R : Type} {φ : R → Prop} {o : Oper} {d : Option Nat} {f : FuncId} {xs : List Operand} {tys : Array TypeId} {args : List SA} {po : R → List SA} {rs : R → RS} {idb id k q : Nat} {x : Operand} {ss : List S0} {sq : R → List S0} {cs : List C} {os : List Nat} {N : St → Prop} (hF : FnR P f args po rs φ) (ho : o.op = .call { callee := .value (.func f), args := xs.toArray, argTypes := tys }) (hd : o.dst = d) (ht : dstB σ.n d = true) (hf : fnB P f = true)
    (hk : args[k]? = some (.bx ss)) (hx : xs[k]? = some x) (hv : σ.ev x = .one (.rf q (.pb 0))) (hq : σ.objs q = some (.cells cs)) (hargs : aPs σ.objs k args (xs.map σ.ev)) (hms : msPs σ.objs ss cs) (hos : msOs ss cs = os) (hnd0 : nodB os = true) (hpos : Nat.blt 0 cs.length = true)
    (hpk : ∀ r, (po r)[k]? = some (.bx (sq r))) (hpl : ∀ r, Nat.beq (sq r).length cs.length = true) (hpn : ∀ r, nOs k (po r) = true)
    (hidb : ∀ r, newR (σ.kills os).objs d (sq r).length = some idb) (hid : ∀ r, newR (σ.boxed q idb os (sq r)).objs d (rs r).cells.length = some id) (hN : ∀ r, φ r → N ((enC id (rs r).cells (σ.boxed q idb os (sq r))).putD d ((rs r).svN id))) : OpW P o N σ := by
  intro K w I g tm hi
  rw [fnB_run ho hf]
  simp only [Oper.upon]
  have hpos := Nat.le_of_ble_eq_true hpos
  have hu : Act.eval ⟨tm, []⟩ x = .pointer (some ⟨(g.addr q).1, (g.addr q).2 + 0, none⟩) := by
    have hp := (hi.ev_one hv).1
    have hp' : seeO w I (g.addr q) (g.base q) (g.L q) (σ.objs q) (.pb 0) (Act.eval ⟨tm, []⟩ x) := hp
    rw [hq] at hp'; exact hp'
  rw [Nat.add_zero] at hu
  obtain ⟨hL, hbx⟩ := hi.cells hq
  obtain ⟨us, hul, hus⟩ := agg_of (cs := cs) (b := (g.addr q).1) (f := (g.addr q).2) (w := w) (I := I) (g := g) (ob := σ.objs) (fun j c0 hj => by
    obtain ⟨v, q1, _, q3, _, q5⟩ := hbx _ c0 hj
    exact ⟨v, q1, q3, q5⟩) cs.length (Nat.le_refl _)
  have hsl : ss.length = cs.length := msPs_len hms
  have hsr : SRs w I ss us (os.flatMap g.L) := by
    rw [← hos]
    refine SRs.of hi hms hul fun j c hj => ?_
    have hlt : j < us.length := by rw [hul]; exact (List.getElem?_eq_some_iff.1 hj).1
    obtain ⟨_, r2, c0, r3, r4⟩ := hus j us[j] (List.getElem?_eq_getElem hlt)
    rw [hj] at r3
    cases r3
    exact ⟨_, List.getElem?_eq_getElem hlt, r2, r4⟩
  have hblk : (g.addr q).1 ∈ g.L q := by rw [hL]; simp
  obtain ⟨hbI, hblt, hbm⟩ := hi.own q _ hblk
  have har : AR w I (.bx ss) (Act.eval ⟨tm, []⟩ x) (os.flatMap g.L) [((g.addr q).1, (g.addr q).2, ss.length)] := by
    refine ⟨_, _, us, hu, rfl, hsr, fun j v hv => ?_⟩
    have hlt := (List.getElem?_eq_some_iff.1 hv).1
    obtain ⟨v', r1, r2, _⟩ := hbx j cs[j] (List.getElem?_eq_getElem (by omega))
    exact ⟨(hus j v hv).1, r2⟩
  have hrows : ∀ o ∈ os, isRows σ.objs o := by rw [← hos]; exact msOs_rows hms
  have hqos : q ∉ os := fun h => by
    obtain ⟨e, t, dp, ys, hq'⟩ := hrows q h
    rw [hq] at hq'; cases hq'
  have hndL : (os.flatMap g.L).Nodup := flat_nodup hi.dis hi.nod (nodB_ok hnd0)
  have hLown : ∀ b ∈ os.flatMap g.L, ∃ x ∈ os, b ∈ g.L x := fun b hb => List.mem_flatMap.1 hb
  have hbL : (g.addr q).1 ∉ os.flatMap g.L := fun h => by
    obtain ⟨y, hy, hb⟩ := hLown _ h
    exact hqos (hi.dis y q _ hb hblk ▸ hy)
  have hLm : ∀ b ∈ os.flatMap g.L, K.mine b := fun b hb => by
    obtain ⟨y, hy, hb⟩ := hLown b hb
    obtain ⟨e, t, dp, ys, hq'⟩ := hrows y hy
    exact hi.own_mine hq' (fun _ h => by cases h) hb
  refine (hF w I _ _ _ ⟨fun b hb => (hi.immX b hb).1, hi.glob⟩ (aPs_ok hi hargs hk hx har) ?_ (fun b hb => ?_)).mono ?_
  · refine List.nodup_append.2 ⟨hndL, by simp, fun a ha b hb e => ?_⟩
    simp at hb
    subst e; subst hb
    exact hbL ha
  · rcases List.mem_append.1 hb with hb | hb
    · obtain ⟨y, hy, hb⟩ := hLown b hb
      exact ⟨(hi.own y b hb).1, hi.ob_lt hb⟩
    · simp at hb; subst hb
      exact ⟨hbI, hblt⟩
  rintro ee w' ⟨r0, hφ, v, rfl, hfc, I', L', Lr, hI1, hI2, hpost, hres, hnd, hown⟩
  specialize hpk r0
  specialize hpl r0
  specialize hpn r0
  specialize hidb r0
  specialize hid r0
  specialize hN r0 hφ
  generalize po r0 = post at *
  generalize rs r0 = res at *
  generalize sq r0 = ss' at *
  have hfrb := newR_ok hidb
  have hfr := newR_ok hid
  have hpl := Nat.eq_of_beq_eq_true hpl
  have hr := hpost.at hpn hpk (u := Act.eval ⟨tm, []⟩ x) (by simp [hx])
  obtain ⟨b2, f2, us2, e1, e2, hr2, hcell2⟩ := hr
  rw [hu] at e1
  simp only [Value.pointer.injEq, Option.some.injEq, Addr.mk.injEq, and_true] at e1
  obtain ⟨rfl, rfl⟩ := e1
  obtain ⟨g1, hi1, ga1, gb1, gx1, go1, hn1⟩ := hi.kills (nodB_ok hnd0) hrows
  have hq1 : (σ.kills os).objs q = some (.cells cs) := by rw [(gx1 q hqos).2]; exact hq
  have hL1 : g1.L q = [(g.addr q).1] := by rw [(gx1 q hqos).1]; exact hL
  have hsub : ∀ x b, b ∈ g1.L x → b ∈ g.L x ∧ x ∉ os := fun x b hb => by
    by_cases hx' : x ∈ os
    · rw [go1 x hx'] at hb; simp at hb
    · rw [(gx1 x hx').1] at hb; exact ⟨hb, hx'⟩
  have hfreeL : ∀ b, b ∈ os.flatMap g.L ∨ w.heap.size ≤ b → Free K I g1 b := by
    intro b hb
    rcases hb with hb | hb
    · obtain ⟨y, hy, hby⟩ := hLown b hb
      refine ⟨(hi.own y b hby).1, fun x hx' => ?_, hLm b hb⟩
      obtain ⟨q1, q2⟩ := hsub x b hx'
      exact q2 (hi.dis x y b q1 hby ▸ hy)
    · exact free_new hi1 hb
  have hown' : ∀ b ∈ L' ++ Lr, ¬ I' b ∧ b ≠ (g.addr q).1 ∧ b < w'.heap.size ∧ (b ∈ os.flatMap g.L ∨ w.heap.size ≤ b) := fun b hb => by
    obtain ⟨q1, q2, q3, q4⟩ := hown b hb
    refine ⟨q1, fun e => q2 (by simp [e]), q3, ?_⟩
    by_cases hlt : b < w.heap.size
    · exact .inl (q4 hlt)
    · exact .inr (Nat.le_of_not_lt hlt)
  obtain ⟨nd1, nd2, nd3⟩ := List.nodup_append.1 hnd
  have hI3 : ∀ b, I' b → b < w'.heap.size ∧ (I b ∨ b ∈ os.flatMap g.L ∨ w.heap.size ≤ b) := fun b hb => by
    obtain ⟨q1, q2⟩ := hI2 b hb
    refine ⟨q1, ?_⟩
    by_cases hlt : b < w.heap.size
    · exact (q2 hlt).elim (fun h => .inl h) fun h => .inr (.inl h)
    · exact .inr (.inr (Nat.le_of_not_lt hlt))
  have hnI : ¬ I' (g.addr q).1 := fun h => by
    rcases (hI3 _ h).2 with h | h | h
    · exact hbI h
    · exact hbL h
    · omega
  have hgr : Grow w w' fun b => b = (g.addr q).1 ∨ b ∈ os.flatMap g.L := ⟨hfc.os, hfc.tape, hfc.output, hfc.size, fun b hb hn => hfc.old b hb (fun h => hn (.inr h)) fun h => hn (.inl (by simpa using h))⟩
  have hR : ∀ f, (g.addr q).1 < K.w0.heap.size → (g.addr q).2 ≤ f → f < (g.addr q).2 + cs.length → K.R (g.addr q).1 f := fun f hlt h1 h2 => by
    obtain ⟨_, _, _, _, r4, _⟩ := hbx (f - (g.addr q).2) cs[f - (g.addr q).2] (List.getElem?_eq_getElem (by omega))
    have := r4 hlt
    rwa [show (g.addr q).2 + (f - (g.addr q).2) = f by omega] at this
  have hnX : ∀ b, b < K.w0.heap.size → ¬ K.X b → b ∉ os.flatMap g.L := fun b hb hx hL => hx (hLm b hL hb)
  have hfr' : K.Fr w' := {
    os := hfc.os.trans hi.fr.os
    tape := hfc.tape.trans hi.fr.tape
    output := hfc.output.trans hi.fr.output
    size := Nat.le_trans hi.fr.size hfc.size
    old := fun b hb hX hR' => (hfc.old b (Nat.lt_of_lt_of_le hb hi.fr.size) (hnX b hb hX) (fun h => by
      simp at h; subst h
      exact hR' _ (hR (g.addr q).2 hb (Nat.le_refl _) (by omega)))).trans (hi.fr.old b hb hX hR')
    part := fun b hb hX f hR' => (hfc.part b (Nat.lt_of_lt_of_le hb hi.fr.size) (hnX b hb hX) f (fun r hr ⟨h1, h2, h3⟩ => by
      simp at hr; subst hr
      simp only at h1 h2 h3
      subst h1
      exact hR' (hR f hb h2 (by omega)))).trans (hi.fr.part b hb hX f hR')
    froz := fun b hb hX f => (hfc.froz b (Nat.lt_of_lt_of_le hb hi.fr.size) (hnX b hb hX) f).trans (hi.fr.froz b hb hX f) }
  have hc2 := hr2.cells
  -- the box, its cells as yet untold
  have hi2 : Inv K w' I' (g1.setO q (g1.addr q) (g1.base q) (g1.L q)) ((σ.kills os).setO q (.cells (ss'.map fun _ => .any))) tm := by
    refine hi1.one hgr (fun b hb => ?_) hfr' hI1 (fun b hb => ?_) (hi1.nod q) (fun b hb => ?_) (fun a ha => by obtain ⟨e1, e2, e3, _⟩ := (hi1.ext q a ha).2 _ hq1; exact ⟨e1, e2, e3, _, rfl⟩) (fun v hv => (hi1.exB q v hv).2 _ hq1) ?_ fun _ _ => ?_
    · rcases hb with rfl | hb
      · exact .inl (by rw [hL1]; simp)
      · exact .inr (hfreeL b (.inl hb))
    · obtain ⟨q1, q2⟩ := hI3 b hb
      rcases q2 with h | h
      · exact .inl h
      · have := hfreeL b h
        exact .inr ⟨.inr this, this.m, this.l q, q1⟩
    · refine ⟨?_, .inl hb, (hi1.own q b hb).2.2⟩
      have := hi1.ob_lt hb
      have := hfc.size
      omega
    · intro r u hs
      rw [hq1] at hs
      rw [St.setO_same, Gh.setO_eq.1, Gh.setO_eq.2.1]
      exact see_cells (by simp [hpl]) hs
    · unfold ObR; rw [St.setO_same]; rw [Gh.setO_eq.1, Gh.setO_eq.2.2, ga1]
      refine ⟨hL1, fun j c hj => ?_⟩
      rw [Gh.setO_eq.1]
      have hlt : j < us2.length := by have := (List.getElem?_eq_some_iff.1 hj).1; simp at this; omega
      obtain ⟨r1, r2⟩ := hcell2 j us2[j] (List.getElem?_eq_getElem hlt)
      refine ⟨us2[j], r1, r2, hc2.2 _ (List.getElem_mem hlt), fun hlt' => hR _ hlt' (by omega) (by omega), ?_⟩
      simp only [List.getElem?_map, Option.map_eq_some_iff] at hj
      obtain ⟨_, _, rfl⟩ := hj
      trivial
  generalize hg2 : g1.setO q (g1.addr q) (g1.base q) (g1.L q) = g2 at hi2
  have hg2L : ∀ x, g2.L x = g1.L x := fun x => by
    rw [← hg2]
    by_cases ex : x = q
    · rw [ex, Gh.setO_eq.2.2]
    · rw [(Gh.setO_ne ex).2.2]
  have hg2a : g2.addr q = g.addr q := by rw [← hg2, Gh.setO_eq.1, ga1]
  have hfree2 : ∀ b ∈ L' ++ Lr, Free K I' g2 b := fun b hb => by
    obtain ⟨q1, q2, q3, q4⟩ := hown' b hb
    have := hfreeL b q4
    exact ⟨q1, fun x hx' => this.l x (by rw [← hg2L]; exact hx'), this.m⟩
  obtain ⟨hb1, hb2⟩ := freeR_ok hfrb
  have hqlt : (σ.kills os).objs q ≠ none := by rw [hq1]; simp
  have hout : q < idb ∨ idb + ss'.length ≤ q := by
    rcases Nat.lt_or_ge q idb with h | h
    · exact .inl h
    · rcases Nat.lt_or_ge q (idb + ss'.length) with h2 | h2
      · exact absurd (hb2 q h h2) hqlt
      · exact .inr h2
  have hfrb2 : freeR ((σ.kills os).setO q (.cells (ss'.map fun _ => .any))).objs ss'.length idb = true := by
    have key : ∀ (n b : Nat), freeR (σ.kills os).objs n b = true → freeR ((σ.kills os).setO q (.cells (ss'.map fun _ => .any))).objs n b = true := by
      intro n
      induction n with
      | zero => intro b h; exact h
      | succ n ih =>
        intro b h
        obtain ⟨h1, h2⟩ := Bool.and_eq_true_iff.1 h
        refine Bool.and_eq_true_iff.2 ⟨?_, ih _ h2⟩
        have hne : b ≠ q := fun e => by
          have := (isNew_ok h1).1
          rw [e] at this; exact hqlt this
        unfold isNew at h1 ⊢
        rw [St.setO_other _ _ _ _ hne]; exact h1
    exact key _ _ hfrb
  obtain ⟨g3, hi3, f3, c3, _, n3, o3, l3⟩ := hi2.cellsN hr2 nd1 (fun b hb => hfree2 b (by simp [hb])) hfrb2
  have hq3 : (enC idb ss' ((σ.kills os).setO q (.cells (ss'.map fun _ => .any)))).objs q = some (.cells (ss'.map fun _ => .any)) := by rw [(o3 q hout).1, St.setO_same]
  have hi4 := hi3.tellBox (cs := enL idb ss') hq3 (by rw [enL_len]; simp) fun j c hj => by
    obtain ⟨u, r1, _, r2⟩ := c3 j c hj
    refine ⟨u, ?_, r2⟩
    rw [(o3 q hout).2, hg2a]
    exact (hcell2 j u r1).1
  have hfree4 : ∀ b ∈ Lr, Free K I' (g3.setO q (g3.addr q) (g3.base q) (g3.L q)) b := fun b hb => by
    have := f3 b (hfree2 b (by simp [hb])) fun h => nd3 b h b hb rfl
    refine ⟨this.i, fun x hx' => ?_, this.m⟩
    by_cases ex : x = q
    · rw [ex, Gh.setO_eq.2.2] at hx'; exact this.l q hx'
    · rw [(Gh.setO_ne ex).2.2] at hx'; exact this.l x hx'
  have hn4 : (σ.boxed q idb os ss').n = σ.n := n3.trans hn1
  obtain ⟨g', hfin⟩ := hi4.res hres nd2 hfree4 hfr (by rw [← hn4] at ht; exact ht)
  cases d with
  | none => simp only [Act.put, hd]; exact ⟨trivial, _, _, _, hN, hfin⟩
  | some t => simp only [Act.put, hd]; exact ⟨trivial, _, _, _, hN, hfin⟩
theorem FnR_of [Glob] {R : Type} {φ : R → Prop} {f : FuncId} {fn : Func} {c : Code} {args : List SA} {po : R → List SA} {rr : R → RS} (hf : P.funcs[f]? = some fn) (hb : fn.body = some c) (hn : Nat.ble args.length fn.ntmps = true) (hsz : szsOK args = true) (hW : W P c (fun e σ => ∃ r, φ r ∧ EndQ P fn args (po r) (rr r) e σ) (St.enter fn.ntmps args)) : FnR P f args po rr φ := by
  intro w I vals L B hI hargs hnd hfr
  refine calls_of_wp hf hb ?_
  obtain ⟨g, hinv⟩ := Inv.enter (n := fn.ntmps) hI.1 hI.2 hargs hnd hfr hsz (Nat.le_of_ble_eq_true hn)
  have e0 : vals.toArray ++ Array.replicate (fn.ntmps - vals.toArray.size) undef = vals.toArray ++ Array.replicate (fn.ntmps - vals.length) undef := by simp
  rw [e0]
  refine wp_mono (W_weakQ (Q := fun e σ => ∃ r, φ r ∧ FnQ P fn args (po r) (rr r) e σ) (hW.mono fun e σ ⟨r, hr, σ', h1, h2⟩ => ⟨σ', h1, r, hr, h2⟩) _ w I _ _ hinv) ?_
  rintro e ⟨tm, df⟩ w' ⟨hd, σ', I', g', ⟨r0, hφ, he, hpo, rs, hrs, hrp, hnd'⟩, hi⟩
  obtain rfl : df = [] := hd
  have main : bodyPost P fn (fun e w' => ∃ r, φ r ∧ FnPost args (po r) (rr r) w I vals L B e w') .ret ⟨tm, []⟩ w' := by
    obtain ⟨v, hv, hr0⟩ := run_results (P := P) hi hrs hrp
    have hpost := PoPs_ok (p := 0) hi hpo hargs (fun i => by show KE args vals _ = _; unfold KE; rw [if_pos (by omega), show 16 * (0 + i) / 16 = i by omega]) (fun i j hj => by
      show KB args vals _ = _
      unfold KB
      rw [if_neg (by omega), show (16 * (0 + i) + 1 + j) / 16 = i by omega, show (16 * (0 + i) + 1 + j) % 16 - 1 = j by omega]) (Bool.and_eq_true_iff.1 hsz).2
    refine ⟨rfl, v, hv, r0, hφ, v, rfl, ⟨hi.fr.os, hi.fr.tape, hi.fr.output, hi.fr.size, fun b h1 h2 h3 => hi.fr.old b h1 h2 ?_, fun b h1 h2 f h3 => hi.fr.part b h1 h2 f ?_, fun b h1 h2 f => hi.fr.froz b h1 h2 f⟩, I', _, _, hi.imm0, fun b hb => ⟨(hi.immX b hb).1, (hi.immX b hb).2⟩, hpost, hr0, ?_, ?_⟩
    · rintro o ⟨r, hr, hr1, _⟩
      exact h3 (List.mem_map.2 ⟨r, hr, hr1⟩)
    · rintro ⟨r, hr, hr1⟩
      exact h3 r hr hr1
    · rw [← List.flatMap_append]
      exact flat_nodup hi.dis hi.nod hnd'
    · intro b hb
      rw [← List.flatMap_append] at hb
      obtain ⟨o, ho, hbo⟩ := List.mem_flatMap.1 hb
      have hrows : isRows σ'.objs o := by
        rcases List.mem_append.1 ho with ho | ho
        · exact PoOs_rows hpo o ho
        · exact RsO_rows hrp o ho
      obtain ⟨e, t, dp, xs, hq⟩ := hrows
      obtain ⟨o1, o2, _⟩ := hi.own o b hbo
      refine ⟨o1, fun hbB => ?_, o2, fun hlt => hi.own_mine hq (fun _ h => by cases h) hbo hlt⟩
      obtain ⟨r, hr, rfl⟩ := List.mem_map.1 hbB
      obtain ⟨i, q1, cs, q2⟩ := PoPs_box (p := 0) hpo hargs r hr
      have hE : (KOf w I args vals L B).E (16 * (0 + i)) = some (r.1, r.2.1) := by
        show KE args vals _ = _
        unfold KE
        rw [if_pos (by omega), show 16 * (0 + i) / 16 = i by omega]; exact q1
      have ha := ((hi.ext _ _ hE).2 _ q2).1
      have hL := (hi.cells q2).1
      rw [ha] at hL
      have : o = 16 * (0 + i) := hi.dis _ _ r.1 hbo (by rw [hL]; simp)
      rw [this, q2] at hq
      cases hq
  cases e <;> first | exact main | cases he

/-- A call with data; what comes back is one of many. -/
theorem callRp [Glob] {R : Type} {φ : R → Prop} {zp : Prop} {o : Oper} {d : Option Nat} {f : FuncId} {xs : List Operand} {tys : Array TypeId} {args : List SA} {post : R → List SA} {res : R → RS} {id : Nat} {N : St → Prop} (a : Bool) (hF : zp → FnR P f args post res φ) (ho : o.op = .call { callee := .value (.func f), args := xs.toArray, argTypes := tys })
    (hc : o.dst = d ∧ dstB σ.n d = true ∧ fnB P f = true ∧ dPs a σ.objs args (xs.map σ.ev) ∧ (∀ r, (!a || (res r).cells.all S0.closed) = true) ∧ (∀ r, newR σ.objs d (res r).cells.length = some id)) (zq : zp) (hN : ∀ r, φ r → N (σ.over (dstU d ((res r).svN id)) (obL id (res r).cells))) : OpW P o N σ := by
  obtain ⟨hd, ht, hf, hargs, hcl, hid⟩ := hc
  exact op_callR a (hF zq) ho hd ht hf hargs hcl hid fun r hr => by rw [enC_over, putD_over]; exact hN r hr
theorem callBRp [Glob] {R : Type} {φ : R → Prop} {zp : Prop} {k : Nat} {o : Oper} {d : Option Nat} {f : FuncId} {xs : List Operand} {tys : Array TypeId} {args : List SA} {post : R → List SA} {res : R → RS} {idb id q : Nat} {x : Operand} {ss : List S0} {ss' : R → List S0} {cs : List C} {os : List Nat} {N : St → Prop} (hF : zp → FnR P f args post res φ) (ho : o.op = .call { callee := .value (.func f), args := xs.toArray, argTypes := tys })
    (hc : liveN 0 args = some k ∧ o.dst = d ∧ dstB σ.n d = true ∧ fnB P f = true ∧ args[k]? = some (.bx ss) ∧ xs[k]? = some x ∧ σ.ev x = .one (.rf q (.pb 0)) ∧ σ.objs q = some (.cells cs) ∧ aPs σ.objs k args (xs.map σ.ev) ∧ msPs σ.objs ss cs ∧ msOs ss cs = os ∧ nodB os = true ∧ Nat.blt 0 cs.length = true ∧ (∀ r, (post r)[k]? = some (.bx (ss' r))) ∧ (∀ r, Nat.beq (ss' r).length cs.length = true) ∧ (∀ r, nOs k (post r) = true) ∧
      (∀ r, newR (σ.over [] ((os.reverse).map fun o => (o, some .dead))).objs d (ss' r).length = some idb) ∧ ∀ r, newR (σ.over [] (boxU q idb os (ss' r))).objs d (res r).cells.length = some id)
    (zq : zp) (hN : ∀ r, φ r → N (σ.over (dstU d ((res r).svN id)) (obL id (res r).cells ++ boxU q idb os (ss' r)))) : OpW P o N σ := by
  obtain ⟨_hk, hd, ht, hf, hk, hx, hv, hq, hargs, hms, hos, hnd0, hpos, hpk, hpl, hpn, hidb, hid⟩ := hc
  exact op_callBR (hF zq) ho hd ht hf hk hx hv hq hargs hms hos hnd0 hpos hpk hpl hpn (fun r => by rw [kills_over]; exact hidb r) (fun r => by rw [boxed_over]; exact hid r) fun r hr => by
    rw [enC_over, boxed_over, over_over, List.append_nil, putD_over]; exact hN r hr
end Go.LX

/- The walk of a function's code as one step: its block stands here once, as the default proof of an argument. -/
set_option linter.unusedVariables false
set_option linter.unusedSimpArgs false
namespace Go.LX

inductive Mk : Prop | mk
theorem Mk.go {G : Prop} (a : G) (_ : Mk) : G := a
structure Hid (p : Prop) : Prop where
  a : p
variable {P : Program} {σ : St}
theorem callDp [Glob] {zp : Prop} {o : Oper} {d : Option Nat} {f : FuncId} {xs : List Operand} {tys : Array TypeId} {args post : List SA} {res : RS} {id : Nat} {N : St → Prop} (a : Bool) (hF : zp → FnC P f args post res) (ho : o.op = .call { callee := .value (.func f), args := xs.toArray, argTypes := tys }) (hc : o.dst = d ∧ dstB σ.n d = true ∧ fnB P f = true ∧ dPs a σ.objs args (xs.map σ.ev) ∧ (!a || res.cells.all S0.closed) = true ∧ newR σ.objs d res.cells.length = some id)
    (zq : zp) (hN : N (σ.over (dstU d (res.svN id)) (obL id res.cells))) : OpW P o N σ := by
  obtain ⟨hd, ht, hf, hargs, hcl, hid⟩ := hc
  exact callD a (hF zq) ho hd ht hf hargs hcl hid hN
theorem callBp [Glob] {zp : Prop} {k : Nat} {o : Oper} {d : Option Nat} {f : FuncId} {xs : List Operand} {tys : Array TypeId} {args post : List SA} {res : RS} {idb id q : Nat} {x : Operand} {ss ss' : List S0} {cs : List C} {os : List Nat} {N : St → Prop}  (hF : zp → FnC P f args post res) (ho : o.op = .call { callee := .value (.func f), args := xs.toArray, argTypes := tys }) (hc : liveN 0 args = some k ∧ o.dst = d ∧ dstB σ.n d = true ∧ fnB P f = true ∧ args[k]? = some (.bx ss) ∧ xs[k]? = some x ∧ σ.ev x = .one (.rf q (.pb 0)) ∧ σ.objs q = some (.cells cs) ∧ aPs σ.objs k args (xs.map σ.ev) ∧ msPs σ.objs ss cs ∧ msOs ss cs = os ∧ nodB os = true ∧ Nat.blt 0 cs.length = true ∧ post[k]? = some (.bx ss') ∧ Nat.beq ss'.length cs.length = true ∧ nOs k post = true ∧ newR (σ.over [] ((os.reverse).map fun o => (o, some .dead))).objs d ss'.length = some idb ∧ newR (σ.over [] (boxU q idb os ss')).objs d res.cells.length = some id)
    (zq : zp) (hN : N (σ.over (dstU d (res.svN id)) (obL id res.cells ++ boxU q idb os ss'))) : OpW P o N σ := by
  obtain ⟨_hk, hd, ht, hf, hk, hx, hv, hq, hargs, hms, hos, hnd0, hpos, hpk, hpl, hpn, hidb, hid⟩ := hc
  exact callB (hF zq) _hk ho hd ht hf hk hx hv hq hargs hms hos hnd0 hpos hpk hpl hpn hidb hid hN
theorem callOp [Glob] {zp : Prop} {k : Nat} {o : Oper} {d : Option Nat} {f : FuncId} {xs : List Operand} {tys : Array TypeId} {args post : List SA} {res : RS} {id q : Nat} {x : Operand} {e : TypeId} {t : Ty} {ys : List t.T} {s' : S0} {N : St → Prop}  (hF : zp → FnC P f args post res) (ho : o.op = .call { callee := .value (.func f), args := xs.toArray, argTypes := tys }) (hc : liveN 0 args = some k ∧ o.dst = d ∧ dstB σ.n d = true ∧ fnB P f = true ∧ args[k]? = some (.c (.own e t false ys)) ∧ xs[k]? = some x ∧ σ.ev x = .one (.rf q .ar) ∧ σ.objs q = some (.rows e t false ys) ∧ aPs σ.objs k args (xs.map σ.ev) ∧ post[k]? = some (.c s') ∧ poB t s' = true ∧ nOs k post = true ∧ newR (σ.over [] [(q, some (obOf s'))]).objs d res.cells.length = some id)
    (zq : zp) (hN : N (σ.over (dstU d (res.svN id)) (obL id res.cells ++ [(q, some (obOf s'))]))) : OpW P o N σ := by
  obtain ⟨_hk, hd, ht, hf, hk, hx, hv, hq, hargs, hpk, hpb, hpn, hid⟩ := hc
  exact callO (hF zq) _hk ho hd ht hf hk hx hv hq hargs hpk hpb hpn hid hN
theorem callAp [Glob] {zp : Prop} {k : Nat} {o : Oper} {d : Option Nat} {f : FuncId} {xs : List Operand} {tys : Array TypeId} {args post : List SA} {res : RS} {id j q : Nat} {x : Operand} {e : TypeId} {t : Ty} {ys : List t.T} {ss ss' : List S0} {cs : List C} {s' : S0} {N : St → Prop}  (hF : zp → FnC P f args post res) (ho : o.op = .call { callee := .value (.func f), args := xs.toArray, argTypes := tys }) (hc : liveN 0 args = some k ∧ o.dst = d ∧ dstB σ.n d = true ∧ fnB P f = true ∧ args[k]? = some (.ag ss) ∧ xs[k]? = some x ∧ σ.ev x = .ag cs ∧ msPs σ.objs ss cs ∧ msOs ss cs = [q] ∧ ownN 0 cs = some j ∧ cs[j]? = some (.rf q .ar) ∧ σ.objs q = some (.rows e t false ys) ∧ aPs σ.objs k args (xs.map σ.ev) ∧ post[k]? = some (.ag ss') ∧ ss'[j]? = some s' ∧ nOc j ss' = true ∧ poB t s' = true ∧ nOs k post = true ∧ newR (σ.over [] [(q, some (obOf s'))]).objs d res.cells.length = some id)
    (zq : zp) (hN : N (σ.over (dstU d (res.svN id)) (obL id res.cells ++ [(q, some (obOf s'))]))) : OpW P o N σ := by
  obtain ⟨_hk, hd, ht, hf, hk, hx, hv, hms, hos, _hj, hj, hq, hargs, hpk, hs', hnj, hpb, hpn, hid⟩ := hc
  exact callA (hF zq) _hk ho hd ht hf hk hx hv hms hos _hj hj hq hargs hpk hs' hnj hpb hpn hid hN
theorem callMp [Glob] {zp : Prop} {o : Oper} {d : Option Nat} {f : FuncId} {xs : List Operand} {tys : Array TypeId} {args post : List SA} {res : RS} {id : Nat} {os : List Nat} {hs : List (Nat × S0)} {N : St → Prop}  (hF : zp → FnC P f args post res) (ho : o.op = .call { callee := .value (.func f), args := xs.toArray, argTypes := tys }) (hc : o.dst = d ∧ dstB σ.n d = true ∧ fnB P f = true ∧ mAs σ.objs args (xs.map σ.ev) ∧ mOs args (xs.map σ.ev) = os ∧ nodB os = true ∧ pOas args (xs.map σ.ev) post = true ∧ hAs args (xs.map σ.ev) post = hs ∧ newR (σ.hand hs).objs d res.cells.length = some id)
    (zq : zp) (hN : N ((σ.hand hs).over (dstU d (res.svN id)) (obL id res.cells))) : OpW P o N σ := by
  obtain ⟨hd, ht, hf, hargs, hos, hnd0, hpo, hhs, hid⟩ := hc
  exact callM (hF zq) ho hd ht hf hargs hos hnd0 hpo hhs hid hN
theorem callNp [Glob] {zp : Prop} {o : Oper} {d : Option Nat} {f : FuncId} {xs : List Operand} {tys : Array TypeId} {args post : TypeId → List SA} {res : RS} {id q i j : Nat} (k : Nat) {x : Operand} {e0 : TypeId} {t e : Ty} {dp : Bool} {zs : List t.T} {ys ys' : List e.T} {x' : t.T} {N : St → Prop}
    (hF : ∀ e1, zp → FnC P f (args e1) (post e1) res) (ho : o.op = .call { callee := .value (.func f), args := xs.toArray, argTypes := tys }) (hd : o.dst = d) (ht : dstB σ.n d = true) (hf : fnB P f = true)
    (hk : ∀ e1, (args e1)[k]? = some (.c (.own e1 e dp ys))) (hx : xs[k]? = some x) (hv : σ.ev x = .one (.rf q (.ns i j))) (hq : σ.objs q = some (.rows e0 t true zs)) (hc : cellAt t (zs.getD i (dflt t)) j = some ⟨.sl e, ys⟩) (hdp : (true == dp || e.flat) = true) (hargs : ∀ e1, aPs σ.objs k (args e1) (xs.map σ.ev))
    (hpk : ∀ e1, (post e1)[k]? = some (.c (.own e1 e dp ys'))) (hpn : ∀ e1, nOs k (post e1) = true) (hs : setSl e ys' t (zs.getD i (dflt t)) j = some x')
    (hid : newR (σ.hand [(q, .own e0 t true (zs.set i x'))]).objs d res.cells.length = some id) (zq : zp) (hN : N ((σ.hand [(q, .own e0 t true (zs.set i x'))]).over (dstU d (res.svN id)) (obL id res.cells))) : OpW P o N σ := callN k (fun e1 => hF e1 zq) ho hd ht hf hk hx hv hq hc hdp hargs hpk hpn hs hid hN
theorem callVp [Glob] {zp : Prop} {o : Oper} {d : Option Nat} {f : FuncId} {x : Operand} {xs : List Operand} {tys : Array TypeId} {args post : List SA} {caps : List (Σ t : Ty, t.T)} {res : RS} {id : Nat} {N : St → Prop} (a : Bool) (hF : zp → FnC P f (args ++ capA caps) post res) (ho : o.op = .call { callee := .value x, args := xs.toArray, argTypes := tys }) (hc : o.dst = d ∧ dstB σ.n d = true ∧ fnB P f = true ∧ σ.ev x = .one (.sem (clS f caps)) ∧ dPs a σ.objs args (xs.map σ.ev) ∧ (!a || res.cells.all S0.closed) = true ∧ newR σ.objs d res.cells.length = some id)
    (zq : zp) (hN : N (σ.over (dstU d (res.svN id)) (obL id res.cells))) : OpW P o N σ := by
  obtain ⟨hd, ht, hf, hx, hargs, hcl, hid⟩ := hc
  exact callV a (hF zq) ho hd ht hf hx hargs hcl hid hN
theorem callXp [Glob] {zp : Prop} {o : Oper} {t' : Nat} {f : FuncId} {xs : List Operand} {tys : Array TypeId} {args : List SA} {ds : List (Σ t : Ty, t.T)} {id : Nat} {N : St → Prop}  (hF : zp → FnBx P f args ds) (ho : o.op = .call { callee := .value (.func f), args := xs.toArray, argTypes := tys }) (hc : o.dst = some t' ∧ Nat.blt t' σ.n = true ∧ fnB P f = true ∧ dPs false σ.objs args (xs.map σ.ev) ∧ newO σ.objs t' = some id)
    (zq : zp) (hN : N (σ.over [(t', .one (.rf id (.pb 0)))] [(id, some (.cells (ds.map fun c => .d c.1 c.2)))])) : OpW P o N σ := by
  obtain ⟨hd, ht, hf, hargs, hid⟩ := hc
  exact op_callBx (hF zq) ho hd ht hf hargs hid hN
/-- The walk, as far as it goes by itself; what is left over is asked for. -/
theorem stp {G L1 L2 L3 L4 L5 L6 L7 L8 L9 L10 L11 L12 L13 L14 L15 L16 : Prop} (h1 : L1) (h2 : L2) (h3 : L3) (h4 : L4) (h5 : L5) (h6 : L6) (h7 : L7) (h8 : L8) (h9 : L9) (h10 : L10) (h11 : L11) (h12 : L12) (h13 : L13) (h14 : L14) (h15 : L15) (h16 : L16) (zP : Hid L1 → Hid L2 → Hid L3 → Hid L4 → Hid L5 → Hid L6 → Hid L7 → Hid L8 → Hid L9 → Hid L10 → Hid L11 → Hid L12 → Hid L13 → Hid L14 → Hid L15 → Hid L16 → G := by
  intro zh1 zh2 zh3 zh4 zh5 zh6 zh7 zh8 zh9 zh10 zh11 zh12 zh13 zh14 zh15 zh16
  refine Mk.go ?_ ?_
  repeat' (first
    | exact trivial
    | (refine inWO ?_; first
      | refine WO_runE (nw := true) rfl rfl ?_ ?_
      | refine WO_runG (nw := true) rfl rfl rfl rfl rfl ?_ ?_
      | refine WO_runG1 (nw := true) rfl rfl rfl rfl rfl ?_ ?_
      | refine WO_runU (nw := true) rfl rfl rfl rfl rfl ?_ ?_
      | refine WO_run1 (nw := true) rfl rfl ?_ ?_
      | refine WO_cons rfl ?_
      | refine WO_gT rfl rfl rfl rfl rfl ?_
      | (refine WO_split rfl rfl rfl rfl ?_ ?_ <;> intro zq <;> try (exfalso; clear zh1 zh2 zh3 zh4 zh5 zh6 zh7 zh8 zh9 zh10 zh11 zh12 zh13 zh14 zh15 zh16; (simp_all) <;> omega))
      | refine WO_nil ?_)
    | (refine inRW ?_; first
      | refine RW_runE (nw := true) rfl rfl (fun _ _ => rfl) rfl ?_ ?_
      | refine RW_runG (nw := true) rfl rfl rfl rfl rfl (fun _ _ => rfl) rfl ?_ ?_
      | refine RW_runG1 (nw := true) rfl rfl rfl rfl rfl (fun _ _ => rfl) rfl ?_ ?_
      | refine RW_runU (nw := true) rfl rfl rfl rfl rfl (fun _ _ => rfl) rfl ?_ ?_
      | refine RW_run1 (nw := true) rfl rfl (fun _ _ => rfl) rfl ?_ ?_
      | refine RW_op (us := ?_) (ub := ?_) (fp := ?_) rfl (fun zs0 zb0 => ?_) ?_ ?_
      | refine RW_opT (us := ?_) (ub := ?_) (fp := ?_) rfl rfl rfl rfl (fun zs0 zb0 => ?_) ?_ ?_
      | (refine RW_split rfl rfl rfl ?_ ?_ <;> intro zq <;> try (exfalso; clear zh1 zh2 zh3 zh4 zh5 zh6 zh7 zh8 zh9 zh10 zh11 zh12 zh13 zh14 zh15 zh16; (simp_all) <;> omega))
      | refine RW_nil ?_ (by first | decide +kernel | kernel_rfl))
    | (refine gate 1 rfl ?_; first
      | (refine' callDp false zD1 rfl ?zc ?_ ?_; case zc => repeat' (first | exact trivial | refine And.intro ?_ ?_ | rfl))
      | (refine' callDp false zD2 rfl ?zc ?_ ?_; case zc => repeat' (first | exact trivial | refine And.intro ?_ ?_ | rfl))
      | (refine' callDp false zD3 rfl ?zc ?_ ?_; case zc => repeat' (first | exact trivial | refine And.intro ?_ ?_ | rfl))
      | (refine' callDp false zD4 rfl ?zc ?_ ?_; case zc => repeat' (first | exact trivial | refine And.intro ?_ ?_ | rfl))
      | (refine' callDp false zD5 rfl ?zc ?_ ?_; case zc => repeat' (first | exact trivial | refine And.intro ?_ ?_ | rfl))
      | (refine' callDp false zD6 rfl ?zc ?_ ?_; case zc => repeat' (first | exact trivial | refine And.intro ?_ ?_ | rfl))
      | (refine' callDp false zD7 rfl ?zc ?_ ?_; case zc => repeat' (first | exact trivial | refine And.intro ?_ ?_ | rfl))
      | (refine' callDp false zD8 rfl ?zc ?_ ?_; case zc => repeat' (first | exact trivial | refine And.intro ?_ ?_ | rfl))
      | (refine' callDp false zD9 rfl ?zc ?_ ?_; case zc => repeat' (first | exact trivial | refine And.intro ?_ ?_ | rfl))
      | (refine' callDp false zD10 rfl ?zc ?_ ?_; case zc => repeat' (first | exact trivial | refine And.intro ?_ ?_ | rfl))
      | (refine' callDp false zD11 rfl ?zc ?_ ?_; case zc => repeat' (first | exact trivial | refine And.intro ?_ ?_ | rfl))
      | (refine' callDp false zD12 rfl ?zc ?_ ?_; case zc => repeat' (first | exact trivial | refine And.intro ?_ ?_ | rfl))
      | (refine' callDp true zE1 rfl ?zc ?_ ?_; case zc => repeat' (first | exact trivial | refine And.intro ?_ ?_ | rfl))
      | (refine' callDp true zE2 rfl ?zc ?_ ?_; case zc => repeat' (first | exact trivial | refine And.intro ?_ ?_ | rfl))
      | (refine' callDp true zE3 rfl ?zc ?_ ?_; case zc => repeat' (first | exact trivial | refine And.intro ?_ ?_ | rfl))
      | (refine' callDp true zE4 rfl ?zc ?_ ?_; case zc => repeat' (first | exact trivial | refine And.intro ?_ ?_ | rfl))
      | (refine' callDp true zE5 rfl ?zc ?_ ?_; case zc => repeat' (first | exact trivial | refine And.intro ?_ ?_ | rfl))
      | (refine' callDp true zE6 rfl ?zc ?_ ?_; case zc => repeat' (first | exact trivial | refine And.intro ?_ ?_ | rfl))
      | (refine' callDp true zE7 rfl ?zc ?_ ?_; case zc => repeat' (first | exact trivial | refine And.intro ?_ ?_ | rfl))
      | (refine' callDp true zE8 rfl ?zc ?_ ?_; case zc => repeat' (first | exact trivial | refine And.intro ?_ ?_ | rfl))
      | (refine' callDp true zE9 rfl ?zc ?_ ?_; case zc => repeat' (first | exact trivial | refine And.intro ?_ ?_ | rfl))
      | (refine' callBp zB1 rfl ?zc ?_ ?_; case zc => repeat' (first | exact trivial | refine And.intro ?_ ?_ | rfl))
      | (refine' callBp zB2 rfl ?zc ?_ ?_; case zc => repeat' (first | exact trivial | refine And.intro ?_ ?_ | rfl))
      | (refine' callBp zB3 rfl ?zc ?_ ?_; case zc => repeat' (first | exact trivial | refine And.intro ?_ ?_ | rfl))
      | (refine' callBp zB4 rfl ?zc ?_ ?_; case zc => repeat' (first | exact trivial | refine And.intro ?_ ?_ | rfl))
      | (refine' callBp zB5 rfl ?zc ?_ ?_; case zc => repeat' (first | exact trivial | refine And.intro ?_ ?_ | rfl))
      | (refine' callBp zB6 rfl ?zc ?_ ?_; case zc => repeat' (first | exact trivial | refine And.intro ?_ ?_ | rfl))
      | (refine' callBp zB7 rfl ?zc ?_ ?_; case zc => repeat' (first | exact trivial | refine And.intro ?_ ?_ | rfl))
      | (refine' callBp zB8 rfl ?zc ?_ ?_; case zc => repeat' (first | exact trivial | refine And.intro ?_ ?_ | rfl))
      | (refine' callBp zB9 rfl ?zc ?_ ?_; case zc => repeat' (first | exact trivial | refine And.intro ?_ ?_ | rfl))
      | (refine' callBp zB10 rfl ?zc ?_ ?_; case zc => repeat' (first | exact trivial | refine And.intro ?_ ?_ | rfl))
      | (refine' callBp zB11 rfl ?zc ?_ ?_; case zc => repeat' (first | exact trivial | refine And.intro ?_ ?_ | rfl))
      | (refine' callBp zB12 rfl ?zc ?_ ?_; case zc => repeat' (first | exact trivial | refine And.intro ?_ ?_ | rfl))
      | (refine' callBRp zQ1 rfl ?zc ?_ (fun zr zv => ?_); case zc => repeat' (first | exact trivial | refine And.intro ?_ ?_ | rfl | (intro zr; rfl)))
      | (refine' callBRp zQ2 rfl ?zc ?_ (fun zr zv => ?_); case zc => repeat' (first | exact trivial | refine And.intro ?_ ?_ | rfl | (intro zr; rfl)))
      | (refine' callBRp zQ3 rfl ?zc ?_ (fun zr zv => ?_); case zc => repeat' (first | exact trivial | refine And.intro ?_ ?_ | rfl | (intro zr; rfl)))
      | (refine' callBRp zQ4 rfl ?zc ?_ (fun zr zv => ?_); case zc => repeat' (first | exact trivial | refine And.intro ?_ ?_ | rfl | (intro zr; rfl)))
      | (refine' callBRp zQ5 rfl ?zc ?_ (fun zr zv => ?_); case zc => repeat' (first | exact trivial | refine And.intro ?_ ?_ | rfl | (intro zr; rfl)))
      | (refine' callBRp zQ6 rfl ?zc ?_ (fun zr zv => ?_); case zc => repeat' (first | exact trivial | refine And.intro ?_ ?_ | rfl | (intro zr; rfl)))
      | (refine' callBRp zQ7 rfl ?zc ?_ (fun zr zv => ?_); case zc => repeat' (first | exact trivial | refine And.intro ?_ ?_ | rfl | (intro zr; rfl)))
      | (refine' callBRp zQ8 rfl ?zc ?_ (fun zr zv => ?_); case zc => repeat' (first | exact trivial | refine And.intro ?_ ?_ | rfl | (intro zr; rfl)))
      | (refine' callBRp zQ9 rfl ?zc ?_ (fun zr zv => ?_); case zc => repeat' (first | exact trivial | refine And.intro ?_ ?_ | rfl | (intro zr; rfl)))
      | (refine' callRp false zR1 rfl ?zc ?_ (fun zr zv => ?_); case zc => repeat' (first | exact trivial | refine And.intro ?_ ?_ | rfl | (intro zr; rfl)))
      | (refine' callRp false zR2 rfl ?zc ?_ (fun zr zv => ?_); case zc => repeat' (first | exact trivial | refine And.intro ?_ ?_ | rfl | (intro zr; rfl)))
      | (refine' callRp false zR3 rfl ?zc ?_ (fun zr zv => ?_); case zc => repeat' (first | exact trivial | refine And.intro ?_ ?_ | rfl | (intro zr; rfl)))
      | (refine' callRp false zR4 rfl ?zc ?_ (fun zr zv => ?_); case zc => repeat' (first | exact trivial | refine And.intro ?_ ?_ | rfl | (intro zr; rfl)))
      | (refine' callRp false zR5 rfl ?zc ?_ (fun zr zv => ?_); case zc => repeat' (first | exact trivial | refine And.intro ?_ ?_ | rfl | (intro zr; rfl)))
      | (refine' callRp false zR6 rfl ?zc ?_ (fun zr zv => ?_); case zc => repeat' (first | exact trivial | refine And.intro ?_ ?_ | rfl | (intro zr; rfl)))
      | (refine' callRp true zS1 rfl ?zc ?_ (fun zr zv => ?_); case zc => repeat' (first | exact trivial | refine And.intro ?_ ?_ | rfl | (intro zr; rfl)))
      | (refine' callRp true zS2 rfl ?zc ?_ (fun zr zv => ?_); case zc => repeat' (first | exact trivial | refine And.intro ?_ ?_ | rfl | (intro zr; rfl)))
      | (refine' callRp true zS3 rfl ?zc ?_ (fun zr zv => ?_); case zc => repeat' (first | exact trivial | refine And.intro ?_ ?_ | rfl | (intro zr; rfl)))
      | (refine' callRp true zS4 rfl ?zc ?_ (fun zr zv => ?_); case zc => repeat' (first | exact trivial | refine And.intro ?_ ?_ | rfl | (intro zr; rfl)))
      | (refine' callRp true zS5 rfl ?zc ?_ (fun zr zv => ?_); case zc => repeat' (first | exact trivial | refine And.intro ?_ ?_ | rfl | (intro zr; rfl)))
      | (refine' callRp true zS6 rfl ?zc ?_ (fun zr zv => ?_); case zc => repeat' (first | exact trivial | refine And.intro ?_ ?_ | rfl | (intro zr; rfl)))
      | (refine' callXp zX1 rfl ?zc ?_ ?_; case zc => repeat' (first | exact trivial | refine And.intro ?_ ?_ | rfl))
      | (refine' callXp zX2 rfl ?zc ?_ ?_; case zc => repeat' (first | exact trivial | refine And.intro ?_ ?_ | rfl))
      | (refine' callXp zX3 rfl ?zc ?_ ?_; case zc => repeat' (first | exact trivial | refine And.intro ?_ ?_ | rfl))
      | (refine' callOp zO1 rfl ?zc ?_ ?_; case zc => repeat' (first | exact trivial | refine And.intro ?_ ?_ | rfl))
      | (refine' callOp zO2 rfl ?zc ?_ ?_; case zc => repeat' (first | exact trivial | refine And.intro ?_ ?_ | rfl))
      | (refine' callOp zO3 rfl ?zc ?_ ?_; case zc => repeat' (first | exact trivial | refine And.intro ?_ ?_ | rfl))
      | (refine' callAp zA1 rfl ?zc ?_ ?_; case zc => repeat' (first | exact trivial | refine And.intro ?_ ?_ | rfl))
      | (refine' callAp zA2 rfl ?zc ?_ ?_; case zc => repeat' (first | exact trivial | refine And.intro ?_ ?_ | rfl))
      | (refine' callAp zA3 rfl ?zc ?_ ?_; case zc => repeat' (first | exact trivial | refine And.intro ?_ ?_ | rfl))
      | (refine' callMp zM1 rfl ?zc ?_ ?_; case zc => repeat' (first | exact trivial | refine And.intro ?_ ?_ | rfl))
      | (refine' callMp zM2 rfl ?zc ?_ ?_; case zc => repeat' (first | exact trivial | refine And.intro ?_ ?_ | rfl))
      | (refine' callMp zM3 rfl ?zc ?_ ?_; case zc => repeat' (first | exact trivial | refine And.intro ?_ ?_ | rfl))
      | (refine callNp 0 (fun zt => zN1 zt) rfl rfl rfl rfl (fun _ => rfl) rfl rfl rfl rfl rfl (fun _ => ⟨rfl, trivial⟩) (fun _ => rfl) (fun _ => rfl) rfl rfl ?_ ?_)
      | (refine callNp 0 (fun zt => zN1 zt) rfl rfl rfl rfl (fun _ => rfl) rfl rfl rfl rfl rfl (fun _ => ?_) (fun _ => rfl) (fun _ => rfl) rfl rfl ?_ ?_; focus repeat' (first | exact trivial | refine And.intro ?_ ?_ | rfl))
      | (refine callNp 1 (fun zt => zN1 zt) rfl rfl rfl rfl (fun _ => rfl) rfl rfl rfl rfl rfl (fun _ => ?_) (fun _ => rfl) (fun _ => rfl) rfl rfl ?_ ?_; focus repeat' (first | exact trivial | refine And.intro ?_ ?_ | rfl))
      | (refine callNp 0 (fun zt => zN2 zt) rfl rfl rfl rfl (fun _ => rfl) rfl rfl rfl rfl rfl (fun _ => ⟨rfl, trivial⟩) (fun _ => rfl) (fun _ => rfl) rfl rfl ?_ ?_)
      | (refine callNp 0 (fun zt => zN2 zt) rfl rfl rfl rfl (fun _ => rfl) rfl rfl rfl rfl rfl (fun _ => ?_) (fun _ => rfl) (fun _ => rfl) rfl rfl ?_ ?_; focus repeat' (first | exact trivial | refine And.intro ?_ ?_ | rfl))
      | (refine callNp 1 (fun zt => zN2 zt) rfl rfl rfl rfl (fun _ => rfl) rfl rfl rfl rfl rfl (fun _ => ?_) (fun _ => rfl) (fun _ => rfl) rfl rfl ?_ ?_; focus repeat' (first | exact trivial | refine And.intro ?_ ?_ | rfl))
      | (refine callNp 0 (fun zt => zN3 zt) rfl rfl rfl rfl (fun _ => rfl) rfl rfl rfl rfl rfl (fun _ => ⟨rfl, trivial⟩) (fun _ => rfl) (fun _ => rfl) rfl rfl ?_ ?_)
      | (refine callNp 0 (fun zt => zN3 zt) rfl rfl rfl rfl (fun _ => rfl) rfl rfl rfl rfl rfl (fun _ => ?_) (fun _ => rfl) (fun _ => rfl) rfl rfl ?_ ?_; focus repeat' (first | exact trivial | refine And.intro ?_ ?_ | rfl))
      | (refine callNp 1 (fun zt => zN3 zt) rfl rfl rfl rfl (fun _ => rfl) rfl rfl rfl rfl rfl (fun _ => ?_) (fun _ => rfl) (fun _ => rfl) rfl rfl ?_ ?_; focus repeat' (first | exact trivial | refine And.intro ?_ ?_ | rfl))
      | (refine' callVp false zV1 rfl ?zc ?_ ?_; case zc => repeat' (first | exact trivial | refine And.intro ?_ ?_ | rfl))
      | (refine' callVp false zV2 rfl ?zc ?_ ?_; case zc => repeat' (first | exact trivial | refine And.intro ?_ ?_ | rfl))
      | (refine' callVp false zV3 rfl ?zc ?_ ?_; case zc => repeat' (first | exact trivial | refine And.intro ?_ ?_ | rfl))
      | (refine' callVp true zW1 rfl ?zc ?_ ?_; case zc => repeat' (first | exact trivial | refine And.intro ?_ ?_ | rfl))
      | (refine' callVp true zW2 rfl ?zc ?_ ?_; case zc => repeat' (first | exact trivial | refine And.intro ?_ ?_ | rfl))
      | (refine' callVp true zW3 rfl ?zc ?_ ?_; case zc => repeat' (first | exact trivial | refine And.intro ?_ ?_ | rfl)))
    | (refine gate 5 rfl ?_; first
      | refine litR rfl rfl rfl rfl rfl rfl rfl rfl ?_
      | refine litW rfl rfl rfl rfl rfl rfl ?_)
    | (refine gate 2 rfl ?_; first
      | refine apOS rfl rfl rfl rfl rfl rfl rfl rfl rfl rfl rfl ?_ ?_ ?_
      | refine apOL rfl rfl rfl rfl rfl rfl rfl rfl rfl rfl rfl rfl ?_ ?_ ?_
      | refine apNS rfl rfl rfl rfl rfl rfl rfl rfl rfl rfl rfl ?_ ?_ ?_
      | refine apNL rfl rfl rfl rfl rfl rfl rfl rfl rfl rfl rfl rfl ?_ ?_ ?_
      | refine apDO rfl rfl rfl rfl rfl rfl rfl rfl rfl rfl rfl rfl rfl rfl ?_ ?_ ?_
      | refine apDN rfl rfl rfl rfl rfl rfl rfl rfl rfl rfl rfl rfl rfl rfl ?_ ?_ ?_
      | refine op_apMk _ rfl rfl rfl rfl rfl rfl rfl rfl rfl rfl rfl rfl rfl ?_ ?_ ?_ ?_
      | refine apDS rfl rfl rfl rfl rfl rfl rfl rfl rfl rfl rfl ?_ ?_ ?_)
    | (refine gate 6 rfl ?_; refine mkS rfl rfl rfl rfl rfl rfl rfl rfl rfl rfl rfl rfl rfl ?_ ?_ ?_ ?_)
    | (refine gate 6 rfl ?_; refine op_makeD _ rfl rfl rfl rfl rfl rfl rfl rfl rfl rfl rfl rfl rfl ?_ ?_ ?_ ?_)
    | (refine gate 0 rfl ?_; refine op_storeD rfl rfl rfl rfl rfl rfl rfl rfl rfl rfl ?_)
    | (refine gate 3 rfl ?_; refine op_capN rfl rfl rfl rfl rfl ?_)
    | (refine gate 3 rfl ?_; refine op_copy rfl rfl rfl rfl rfl rfl rfl rfl rfl rfl rfl ?_)
    | (refine gate 9 rfl ?_; refine op_bs rfl rfl rfl rfl rfl rfl rfl rfl ?_)
    | (refine gate 9 rfl ?_; refine op_bs rfl rfl rfl rfl rfl rfl rfl rfl ?_)
    | (refine gate 9 rfl ?_; refine op_cvF rfl rfl rfl rfl rfl rfl rfl rfl ?_)
    | (refine gate 8 rfl ?_; refine op_mkFn rfl rfl rfl rfl ?_)
    | (refine gate 7 rfl ?_; refine op_nil rfl rfl rfl rfl rfl rfl (fun zb zhb => ?_))
    | (refine gate 7 rfl ?_; refine op_seq rfl rfl rfl rfl rfl rfl rfl (by first | decide +kernel | kernel_rfl) rfl ?_)
    | (refine inW ?_; first
      | refine W_seq ?_
      | refine W_region ?_
      | refine W_drawN (by decide +kernel) ?_
      | refine W_block ?_
      | refine W_skip ?_
      | refine W_exit ?_
      | refine W_ret ?_
      | refine W_condT rfl rfl ?_
      | refine W_condF rfl rfl ?_
      | (refine W_condB rfl ?_ ?_ <;> intro zq <;> try (exfalso; clear zh1 zh2 zh3 zh4 zh5 zh6 zh7 zh8 zh9 zh10 zh11 zh12 zh13 zh14 zh15 zh16; (simp_all) <;> omega)))
    | (refine inE ?_; first
      | refine end_d rfl rfl rfl rfl ?_ ?_
      | refine end_o rfl rfl rfl rfl ?_ ?_
      | refine end_of rfl rfl rfl ?_ ?_)
    | refine ⟨_, _, _, rfl, rfl, rfl, rfl, ?_⟩
    | refine rsOne ?_
    | refine msPd rfl ?_
    | refine msPn ?_
    | refine msPo rfl ?_
    | refine And.intro ?_ ?_
    | (show List.length _ ≠ 1; simp)
    | (show (_ : Int) ≤ _; first | omega | (simp [IntKind.bits, dflt] <;> omega) | (clear zh1 zh2 zh3 zh4 zh5 zh6 zh7 zh8 zh9 zh10 zh11 zh12 zh13 zh14 zh15 zh16; simp at *; omega))
    | (show (_ : Int) < _; first | omega | (simp [IntKind.bits, dflt] <;> omega) | (clear zh1 zh2 zh3 zh4 zh5 zh6 zh7 zh8 zh9 zh10 zh11 zh12 zh13 zh14 zh15 zh16; simp at *; omega))
    | (show (_ : Nat) ≤ _; first | omega | (unfold maxLen; omega) | (simp [IntKind.bits, dflt] <;> omega) | (clear zh1 zh2 zh3 zh4 zh5 zh6 zh7 zh8 zh9 zh10 zh11 zh12 zh13 zh14 zh15 zh16; simp at *; omega))
    | rfl)
  all_goals (repeat (first | revert zq | revert zv | revert zr | revert zhb | revert zb))
  all_goals (first | ((first | have : True := zh1.1 | skip); (first | have : True := zh2.1 | skip); (first | have : True := zh3.1 | skip); (first | have : True := zh4.1 | skip); (first | have : True := zh5.1 | skip); (first | have : True := zh6.1 | skip); (first | have : True := zh7.1 | skip); (first | have : True := zh8.1 | skip); (first | have : True := zh9.1 | skip); (first | have : True := zh10.1 | skip); (first | have : True := zh11.1 | skip); (first | have : True := zh12.1 | skip); (first | have : True := zh13.1 | skip); (first | have : True := zh14.1 | skip); (first | have : True := zh15.1 | skip); (first | have : True := zh16.1 | skip); exact Mk.mk) | with_reducible exact zh1.1 | with_reducible exact zh2.1 | with_reducible exact zh3.1 | with_reducible exact zh4.1 | with_reducible exact zh5.1 | with_reducible exact zh6.1 | with_reducible exact zh7.1 | with_reducible exact zh8.1 | with_reducible exact zh9.1 | with_reducible exact zh10.1 | with_reducible exact zh11.1 | with_reducible exact zh12.1 | with_reducible exact zh13.1 | with_reducible exact zh14.1 | with_reducible exact zh15.1 | with_reducible exact zh16.1)
  ) : G := zP ⟨h1⟩ ⟨h2⟩ ⟨h3⟩ ⟨h4⟩ ⟨h5⟩ ⟨h6⟩ ⟨h7⟩ ⟨h8⟩ ⟨h9⟩ ⟨h10⟩ ⟨h11⟩ ⟨h12⟩ ⟨h13⟩ ⟨h14⟩ ⟨h15⟩ ⟨h16⟩
end Go.LX

/- The walk's block, with other alternatives. -/
set_option linter.unusedVariables false
set_option linter.unusedSimpArgs false
namespace Go.LX

/-- The walk, as far as it goes by itself; what is left over is asked for. -/
theorem stpC {G L1 L2 L3 L4 L5 L6 L7 L8 L9 L10 L11 L12 L13 L14 L15 L16 : Prop} (h1 : L1) (h2 : L2) (h3 : L3) (h4 : L4) (h5 : L5) (h6 : L6) (h7 : L7) (h8 : L8) (h9 : L9) (h10 : L10) (h11 : L11) (h12 : L12) (h13 : L13) (h14 : L14) (h15 : L15) (h16 : L16) (zP : Hid L1 → Hid L2 → Hid L3 → Hid L4 → Hid L5 → Hid L6 → Hid L7 → Hid L8 → Hid L9 → Hid L10 → Hid L11 → Hid L12 → Hid L13 → Hid L14 → Hid L15 → Hid L16 → G := by
  intro zh1 zh2 zh3 zh4 zh5 zh6 zh7 zh8 zh9 zh10 zh11 zh12 zh13 zh14 zh15 zh16
  refine Mk.go ?_ ?_
  repeat' (first
    | exact trivial
    | (refine inWO ?_; first
      | (refine WO_cons rfl ?_; refine op_cut rfl rfl rfl rfl rfl rfl rfl rfl rfl ?_ ?_ ?_)
      | refine WO_runG1 (nw := true) rfl rfl rfl rfl rfl ?_ ?_
      | refine WO_runU (nw := true) rfl rfl rfl rfl rfl ?_ ?_
      | refine WO_run1 (nw := true) rfl rfl ?_ ?_
      | refine WO_cons rfl ?_
      | refine WO_gT rfl rfl rfl rfl rfl ?_
      | (refine WO_split rfl rfl rfl rfl ?_ ?_ <;> intro zq <;> try (exfalso; clear zh1 zh2 zh3 zh4 zh5 zh6 zh7 zh8 zh9 zh10 zh11 zh12 zh13 zh14 zh15 zh16; (simp_all) <;> omega))
      | refine WO_nil ?_)
    | (refine inRW ?_; first
      | refine RW_runE (nw := true) rfl rfl (fun _ _ => rfl) rfl ?_ ?_
      | refine RW_runG (nw := true) rfl rfl rfl rfl rfl (fun _ _ => rfl) rfl ?_ ?_
      | refine RW_runG1 (nw := true) rfl rfl rfl rfl rfl (fun _ _ => rfl) rfl ?_ ?_
      | refine RW_runU (nw := true) rfl rfl rfl rfl rfl (fun _ _ => rfl) rfl ?_ ?_
      | refine RW_run1 (nw := true) rfl rfl (fun _ _ => rfl) rfl ?_ ?_
      | refine RW_op (us := ?_) (ub := ?_) (fp := ?_) rfl (fun zs0 zb0 => ?_) ?_ ?_
      | refine RW_opT (us := ?_) (ub := ?_) (fp := ?_) rfl rfl rfl rfl (fun zs0 zb0 => ?_) ?_ ?_
      | (refine RW_split rfl rfl rfl ?_ ?_ <;> intro zq <;> try (exfalso; clear zh1 zh2 zh3 zh4 zh5 zh6 zh7 zh8 zh9 zh10 zh11 zh12 zh13 zh14 zh15 zh16; (simp_all) <;> omega))
      | refine RW_nil ?_ (by first | decide +kernel | kernel_rfl))
    | (refine gate 1 rfl ?_; first
      | (refine' callDp false zD1 rfl ?zc ?_ ?_; case zc => repeat' (first | exact trivial | refine And.intro ?_ ?_ | rfl))
      | (refine' callDp false zD2 rfl ?zc ?_ ?_; case zc => repeat' (first | exact trivial | refine And.intro ?_ ?_ | rfl))
      | (refine' callDp false zD3 rfl ?zc ?_ ?_; case zc => repeat' (first | exact trivial | refine And.intro ?_ ?_ | rfl))
      | (refine' callDp false zD4 rfl ?zc ?_ ?_; case zc => repeat' (first | exact trivial | refine And.intro ?_ ?_ | rfl))
      | (refine' callDp false zD5 rfl ?zc ?_ ?_; case zc => repeat' (first | exact trivial | refine And.intro ?_ ?_ | rfl))
      | (refine' callDp false zD6 rfl ?zc ?_ ?_; case zc => repeat' (first | exact trivial | refine And.intro ?_ ?_ | rfl))
      | (refine' callDp false zD7 rfl ?zc ?_ ?_; case zc => repeat' (first | exact trivial | refine And.intro ?_ ?_ | rfl))
      | (refine' callDp false zD8 rfl ?zc ?_ ?_; case zc => repeat' (first | exact trivial | refine And.intro ?_ ?_ | rfl))
      | (refine' callDp false zD9 rfl ?zc ?_ ?_; case zc => repeat' (first | exact trivial | refine And.intro ?_ ?_ | rfl))
      | (refine' callDp false zD10 rfl ?zc ?_ ?_; case zc => repeat' (first | exact trivial | refine And.intro ?_ ?_ | rfl))
      | (refine' callDp false zD11 rfl ?zc ?_ ?_; case zc => repeat' (first | exact trivial | refine And.intro ?_ ?_ | rfl))
      | (refine' callDp false zD12 rfl ?zc ?_ ?_; case zc => repeat' (first | exact trivial | refine And.intro ?_ ?_ | rfl))
      | (refine' callDp true zE1 rfl ?zc ?_ ?_; case zc => repeat' (first | exact trivial | refine And.intro ?_ ?_ | rfl))
      | (refine' callDp true zE2 rfl ?zc ?_ ?_; case zc => repeat' (first | exact trivial | refine And.intro ?_ ?_ | rfl))
      | (refine' callDp true zE3 rfl ?zc ?_ ?_; case zc => repeat' (first | exact trivial | refine And.intro ?_ ?_ | rfl))
      | (refine' callDp true zE4 rfl ?zc ?_ ?_; case zc => repeat' (first | exact trivial | refine And.intro ?_ ?_ | rfl))
      | (refine' callDp true zE5 rfl ?zc ?_ ?_; case zc => repeat' (first | exact trivial | refine And.intro ?_ ?_ | rfl))
      | (refine' callDp true zE6 rfl ?zc ?_ ?_; case zc => repeat' (first | exact trivial | refine And.intro ?_ ?_ | rfl))
      | (refine' callDp true zE7 rfl ?zc ?_ ?_; case zc => repeat' (first | exact trivial | refine And.intro ?_ ?_ | rfl))
      | (refine' callDp true zE8 rfl ?zc ?_ ?_; case zc => repeat' (first | exact trivial | refine And.intro ?_ ?_ | rfl))
      | (refine' callDp true zE9 rfl ?zc ?_ ?_; case zc => repeat' (first | exact trivial | refine And.intro ?_ ?_ | rfl))
      | (refine' callBp zB1 rfl ?zc ?_ ?_; case zc => repeat' (first | exact trivial | refine And.intro ?_ ?_ | rfl))
      | (refine' callBp zB2 rfl ?zc ?_ ?_; case zc => repeat' (first | exact trivial | refine And.intro ?_ ?_ | rfl))
      | (refine' callBp zB3 rfl ?zc ?_ ?_; case zc => repeat' (first | exact trivial | refine And.intro ?_ ?_ | rfl))
      | (refine' callBp zB4 rfl ?zc ?_ ?_; case zc => repeat' (first | exact trivial | refine And.intro ?_ ?_ | rfl))
      | (refine' callBp zB5 rfl ?zc ?_ ?_; case zc => repeat' (first | exact trivial | refine And.intro ?_ ?_ | rfl))
      | (refine' callBp zB6 rfl ?zc ?_ ?_; case zc => repeat' (first | exact trivial | refine And.intro ?_ ?_ | rfl))
      | (refine' callBp zB7 rfl ?zc ?_ ?_; case zc => repeat' (first | exact trivial | refine And.intro ?_ ?_ | rfl))
      | (refine' callBp zB8 rfl ?zc ?_ ?_; case zc => repeat' (first | exact trivial | refine And.intro ?_ ?_ | rfl))
      | (refine' callBp zB9 rfl ?zc ?_ ?_; case zc => repeat' (first | exact trivial | refine And.intro ?_ ?_ | rfl))
      | (refine' callBp zB10 rfl ?zc ?_ ?_; case zc => repeat' (first | exact trivial | refine And.intro ?_ ?_ | rfl))
      | (refine' callBp zB11 rfl ?zc ?_ ?_; case zc => repeat' (first | exact trivial | refine And.intro ?_ ?_ | rfl))
      | (refine' callBp zB12 rfl ?zc ?_ ?_; case zc => repeat' (first | exact trivial | refine And.intro ?_ ?_ | rfl))
      | (refine' callBRp zQ1 rfl ?zc ?_ (fun zr zv => ?_); case zc => repeat' (first | exact trivial | refine And.intro ?_ ?_ | rfl | (intro zr; rfl)))
      | (refine' callBRp zQ2 rfl ?zc ?_ (fun zr zv => ?_); case zc => repeat' (first | exact trivial | refine And.intro ?_ ?_ | rfl | (intro zr; rfl)))
      | (refine' callBRp zQ3 rfl ?zc ?_ (fun zr zv => ?_); case zc => repeat' (first | exact trivial | refine And.intro ?_ ?_ | rfl | (intro zr; rfl)))
      | (refine' callBRp zQ4 rfl ?zc ?_ (fun zr zv => ?_); case zc => repeat' (first | exact trivial | refine And.intro ?_ ?_ | rfl | (intro zr; rfl)))
      | (refine' callBRp zQ5 rfl ?zc ?_ (fun zr zv => ?_); case zc => repeat' (first | exact trivial | refine And.intro ?_ ?_ | rfl | (intro zr; rfl)))
      | (refine' callBRp zQ6 rfl ?zc ?_ (fun zr zv => ?_); case zc => repeat' (first | exact trivial | refine And.intro ?_ ?_ | rfl | (intro zr; rfl)))
      | (refine' callBRp zQ7 rfl ?zc ?_ (fun zr zv => ?_); case zc => repeat' (first | exact trivial | refine And.intro ?_ ?_ | rfl | (intro zr; rfl)))
      | (refine' callBRp zQ8 rfl ?zc ?_ (fun zr zv => ?_); case zc => repeat' (first | exact trivial | refine And.intro ?_ ?_ | rfl | (intro zr; rfl)))
      | (refine' callBRp zQ9 rfl ?zc ?_ (fun zr zv => ?_); case zc => repeat' (first | exact trivial | refine And.intro ?_ ?_ | rfl | (intro zr; rfl)))
      | (refine' callRp false zR1 rfl ?zc ?_ (fun zr zv => ?_); case zc => repeat' (first | exact trivial | refine And.intro ?_ ?_ | rfl | (intro zr; rfl)))
      | (refine' callRp false zR2 rfl ?zc ?_ (fun zr zv => ?_); case zc => repeat' (first | exact trivial | refine And.intro ?_ ?_ | rfl | (intro zr; rfl)))
      | (refine' callRp false zR3 rfl ?zc ?_ (fun zr zv => ?_); case zc => repeat' (first | exact trivial | refine And.intro ?_ ?_ | rfl | (intro zr; rfl)))
      | (refine' callRp false zR4 rfl ?zc ?_ (fun zr zv => ?_); case zc => repeat' (first | exact trivial | refine And.intro ?_ ?_ | rfl | (intro zr; rfl)))
      | (refine' callRp false zR5 rfl ?zc ?_ (fun zr zv => ?_); case zc => repeat' (first | exact trivial | refine And.intro ?_ ?_ | rfl | (intro zr; rfl)))
      | (refine' callRp false zR6 rfl ?zc ?_ (fun zr zv => ?_); case zc => repeat' (first | exact trivial | refine And.intro ?_ ?_ | rfl | (intro zr; rfl)))
      | (refine' callRp true zS1 rfl ?zc ?_ (fun zr zv => ?_); case zc => repeat' (first | exact trivial | refine And.intro ?_ ?_ | rfl | (intro zr; rfl)))
      | (refine' callRp true zS2 rfl ?zc ?_ (fun zr zv => ?_); case zc => repeat' (first | exact trivial | refine And.intro ?_ ?_ | rfl | (intro zr; rfl)))
      | (refine' callRp true zS3 rfl ?zc ?_ (fun zr zv => ?_); case zc => repeat' (first | exact trivial | refine And.intro ?_ ?_ | rfl | (intro zr; rfl)))
      | (refine' callRp true zS4 rfl ?zc ?_ (fun zr zv => ?_); case zc => repeat' (first | exact trivial | refine And.intro ?_ ?_ | rfl | (intro zr; rfl)))
      | (refine' callRp true zS5 rfl ?zc ?_ (fun zr zv => ?_); case zc => repeat' (first | exact trivial | refine And.intro ?_ ?_ | rfl | (intro zr; rfl)))
      | (refine' callRp true zS6 rfl ?zc ?_ (fun zr zv => ?_); case zc => repeat' (first | exact trivial | refine And.intro ?_ ?_ | rfl | (intro zr; rfl)))
      | (refine' callXp zX1 rfl ?zc ?_ ?_; case zc => repeat' (first | exact trivial | refine And.intro ?_ ?_ | rfl))
      | (refine' callXp zX2 rfl ?zc ?_ ?_; case zc => repeat' (first | exact trivial | refine And.intro ?_ ?_ | rfl))
      | (refine' callXp zX3 rfl ?zc ?_ ?_; case zc => repeat' (first | exact trivial | refine And.intro ?_ ?_ | rfl))
      | (refine' callOp zO1 rfl ?zc ?_ ?_; case zc => repeat' (first | exact trivial | refine And.intro ?_ ?_ | rfl))
      | (refine' callOp zO2 rfl ?zc ?_ ?_; case zc => repeat' (first | exact trivial | refine And.intro ?_ ?_ | rfl))
      | (refine' callOp zO3 rfl ?zc ?_ ?_; case zc => repeat' (first | exact trivial | refine And.intro ?_ ?_ | rfl))
      | (refine' callAp zA1 rfl ?zc ?_ ?_; case zc => repeat' (first | exact trivial | refine And.intro ?_ ?_ | rfl))
      | (refine' callAp zA2 rfl ?zc ?_ ?_; case zc => repeat' (first | exact trivial | refine And.intro ?_ ?_ | rfl))
      | (refine' callAp zA3 rfl ?zc ?_ ?_; case zc => repeat' (first | exact trivial | refine And.intro ?_ ?_ | rfl))
      | (refine' callMp zM1 rfl ?zc ?_ ?_; case zc => repeat' (first | exact trivial | refine And.intro ?_ ?_ | rfl))
      | (refine' callMp zM2 rfl ?zc ?_ ?_; case zc => repeat' (first | exact trivial | refine And.intro ?_ ?_ | rfl))
      | (refine' callMp zM3 rfl ?zc ?_ ?_; case zc => repeat' (first | exact trivial | refine And.intro ?_ ?_ | rfl))
      | (refine callNp 0 (fun zt => zN1 zt) rfl rfl rfl rfl (fun _ => rfl) rfl rfl rfl rfl rfl (fun _ => ⟨rfl, trivial⟩) (fun _ => rfl) (fun _ => rfl) rfl rfl ?_ ?_)
      | (refine callNp 0 (fun zt => zN1 zt) rfl rfl rfl rfl (fun _ => rfl) rfl rfl rfl rfl rfl (fun _ => ?_) (fun _ => rfl) (fun _ => rfl) rfl rfl ?_ ?_; focus repeat' (first | exact trivial | refine And.intro ?_ ?_ | rfl))
      | (refine callNp 1 (fun zt => zN1 zt) rfl rfl rfl rfl (fun _ => rfl) rfl rfl rfl rfl rfl (fun _ => ?_) (fun _ => rfl) (fun _ => rfl) rfl rfl ?_ ?_; focus repeat' (first | exact trivial | refine And.intro ?_ ?_ | rfl))
      | (refine callNp 0 (fun zt => zN2 zt) rfl rfl rfl rfl (fun _ => rfl) rfl rfl rfl rfl rfl (fun _ => ⟨rfl, trivial⟩) (fun _ => rfl) (fun _ => rfl) rfl rfl ?_ ?_)
      | (refine callNp 0 (fun zt => zN2 zt) rfl rfl rfl rfl (fun _ => rfl) rfl rfl rfl rfl rfl (fun _ => ?_) (fun _ => rfl) (fun _ => rfl) rfl rfl ?_ ?_; focus repeat' (first | exact trivial | refine And.intro ?_ ?_ | rfl))
      | (refine callNp 1 (fun zt => zN2 zt) rfl rfl rfl rfl (fun _ => rfl) rfl rfl rfl rfl rfl (fun _ => ?_) (fun _ => rfl) (fun _ => rfl) rfl rfl ?_ ?_; focus repeat' (first | exact trivial | refine And.intro ?_ ?_ | rfl))
      | (refine callNp 0 (fun zt => zN3 zt) rfl rfl rfl rfl (fun _ => rfl) rfl rfl rfl rfl rfl (fun _ => ⟨rfl, trivial⟩) (fun _ => rfl) (fun _ => rfl) rfl rfl ?_ ?_)
      | (refine callNp 0 (fun zt => zN3 zt) rfl rfl rfl rfl (fun _ => rfl) rfl rfl rfl rfl rfl (fun _ => ?_) (fun _ => rfl) (fun _ => rfl) rfl rfl ?_ ?_; focus repeat' (first | exact trivial | refine And.intro ?_ ?_ | rfl))
      | (refine callNp 1 (fun zt => zN3 zt) rfl rfl rfl rfl (fun _ => rfl) rfl rfl rfl rfl rfl (fun _ => ?_) (fun _ => rfl) (fun _ => rfl) rfl rfl ?_ ?_; focus repeat' (first | exact trivial | refine And.intro ?_ ?_ | rfl))
      | (refine' callVp false zV1 rfl ?zc ?_ ?_; case zc => repeat' (first | exact trivial | refine And.intro ?_ ?_ | rfl))
      | (refine' callVp false zV2 rfl ?zc ?_ ?_; case zc => repeat' (first | exact trivial | refine And.intro ?_ ?_ | rfl))
      | (refine' callVp false zV3 rfl ?zc ?_ ?_; case zc => repeat' (first | exact trivial | refine And.intro ?_ ?_ | rfl))
      | (refine' callVp true zW1 rfl ?zc ?_ ?_; case zc => repeat' (first | exact trivial | refine And.intro ?_ ?_ | rfl))
      | (refine' callVp true zW2 rfl ?zc ?_ ?_; case zc => repeat' (first | exact trivial | refine And.intro ?_ ?_ | rfl))
      | (refine' callVp true zW3 rfl ?zc ?_ ?_; case zc => repeat' (first | exact trivial | refine And.intro ?_ ?_ | rfl)))
    | (refine gate 5 rfl ?_; first
      | refine litR rfl rfl rfl rfl rfl rfl rfl rfl ?_
      | refine litW rfl rfl rfl rfl rfl rfl ?_)
    | (refine gate 2 rfl ?_; first
      | refine apOS rfl rfl rfl rfl rfl rfl rfl rfl rfl rfl rfl ?_ ?_ ?_
      | refine apOL rfl rfl rfl rfl rfl rfl rfl rfl rfl rfl rfl rfl ?_ ?_ ?_
      | refine apNS rfl rfl rfl rfl rfl rfl rfl rfl rfl rfl rfl ?_ ?_ ?_
      | refine apNL rfl rfl rfl rfl rfl rfl rfl rfl rfl rfl rfl rfl ?_ ?_ ?_
      | refine apDO rfl rfl rfl rfl rfl rfl rfl rfl rfl rfl rfl rfl rfl rfl ?_ ?_ ?_
      | refine apDN rfl rfl rfl rfl rfl rfl rfl rfl rfl rfl rfl rfl rfl rfl ?_ ?_ ?_
      | refine op_apMk _ rfl rfl rfl rfl rfl rfl rfl rfl rfl rfl rfl rfl rfl ?_ ?_ ?_ ?_
      | refine apDS rfl rfl rfl rfl rfl rfl rfl rfl rfl rfl rfl ?_ ?_ ?_)
    | (refine gate 6 rfl ?_; refine mkS rfl rfl rfl rfl rfl rfl rfl rfl rfl rfl rfl rfl rfl ?_ ?_ ?_ ?_)
    | (refine gate 6 rfl ?_; refine op_makeD _ rfl rfl rfl rfl rfl rfl rfl rfl rfl rfl rfl rfl rfl ?_ ?_ ?_ ?_)
    | (refine gate 0 rfl ?_; refine op_storeD rfl rfl rfl rfl rfl rfl rfl rfl rfl rfl ?_)
    | (refine gate 3 rfl ?_; refine op_capN rfl rfl rfl rfl rfl ?_)
    | (refine gate 3 rfl ?_; refine op_copy rfl rfl rfl rfl rfl rfl rfl rfl rfl rfl rfl ?_)
    | (refine gate 9 rfl ?_; refine op_bs rfl rfl rfl rfl rfl rfl rfl rfl ?_)
    | (refine gate 9 rfl ?_; refine op_bs rfl rfl rfl rfl rfl rfl rfl rfl ?_)
    | (refine gate 9 rfl ?_; refine op_cvF rfl rfl rfl rfl rfl rfl rfl rfl ?_)
    | (refine gate 8 rfl ?_; refine op_mkFn rfl rfl rfl rfl ?_)
    | (refine gate 7 rfl ?_; refine op_nil rfl rfl rfl rfl rfl rfl (fun zb zhb => ?_))
    | (refine gate 7 rfl ?_; refine op_seq rfl rfl rfl rfl rfl rfl rfl (by first | decide +kernel | kernel_rfl) rfl ?_)
    | (refine inW ?_; first
      | refine W_seq ?_
      | refine W_region ?_
      | refine W_drawN (by decide +kernel) ?_
      | refine W_block ?_
      | refine W_skip ?_
      | refine W_exit ?_
      | refine W_ret ?_
      | refine W_condT rfl rfl ?_
      | refine W_condF rfl rfl ?_
      | (refine W_condB rfl ?_ ?_ <;> intro zq <;> try (exfalso; clear zh1 zh2 zh3 zh4 zh5 zh6 zh7 zh8 zh9 zh10 zh11 zh12 zh13 zh14 zh15 zh16; (simp_all) <;> omega)))
    | (refine inE ?_; first
      | refine end_d rfl rfl rfl rfl ?_ ?_
      | refine end_o rfl rfl rfl rfl ?_ ?_
      | refine end_of rfl rfl rfl ?_ ?_)
    | refine ⟨_, _, _, rfl, rfl, rfl, rfl, ?_⟩
    | refine rsOne ?_
    | refine msPd rfl ?_
    | refine msPn ?_
    | refine msPo rfl ?_
    | refine And.intro ?_ ?_
    | (show List.length _ ≠ 1; simp)
    | (show (_ : Int) ≤ _; first | omega | (simp [IntKind.bits, dflt] <;> omega) | (clear zh1 zh2 zh3 zh4 zh5 zh6 zh7 zh8 zh9 zh10 zh11 zh12 zh13 zh14 zh15 zh16; simp at *; omega))
    | (show (_ : Int) < _; first | omega | (simp [IntKind.bits, dflt] <;> omega) | (clear zh1 zh2 zh3 zh4 zh5 zh6 zh7 zh8 zh9 zh10 zh11 zh12 zh13 zh14 zh15 zh16; simp at *; omega))
    | (show (_ : Nat) ≤ _; first | omega | (unfold maxLen; omega) | (simp [IntKind.bits, dflt] <;> omega) | (clear zh1 zh2 zh3 zh4 zh5 zh6 zh7 zh8 zh9 zh10 zh11 zh12 zh13 zh14 zh15 zh16; simp at *; omega))
    | rfl)
  all_goals (repeat (first | revert zq | revert zv | revert zr | revert zhb | revert zb))
  all_goals (first | ((first | have : True := zh1.1 | skip); (first | have : True := zh2.1 | skip); (first | have : True := zh3.1 | skip); (first | have : True := zh4.1 | skip); (first | have : True := zh5.1 | skip); (first | have : True := zh6.1 | skip); (first | have : True := zh7.1 | skip); (first | have : True := zh8.1 | skip); (first | have : True := zh9.1 | skip); (first | have : True := zh10.1 | skip); (first | have : True := zh11.1 | skip); (first | have : True := zh12.1 | skip); (first | have : True := zh13.1 | skip); (first | have : True := zh14.1 | skip); (first | have : True := zh15.1 | skip); (first | have : True := zh16.1 | skip); exact Mk.mk) | with_reducible exact zh1.1 | with_reducible exact zh2.1 | with_reducible exact zh3.1 | with_reducible exact zh4.1 | with_reducible exact zh5.1 | with_reducible exact zh6.1 | with_reducible exact zh7.1 | with_reducible exact zh8.1 | with_reducible exact zh9.1 | with_reducible exact zh10.1 | with_reducible exact zh11.1 | with_reducible exact zh12.1 | with_reducible exact zh13.1 | with_reducible exact zh14.1 | with_reducible exact zh15.1 | with_reducible exact zh16.1)
  ) : G := zP ⟨h1⟩ ⟨h2⟩ ⟨h3⟩ ⟨h4⟩ ⟨h5⟩ ⟨h6⟩ ⟨h7⟩ ⟨h8⟩ ⟨h9⟩ ⟨h10⟩ ⟨h11⟩ ⟨h12⟩ ⟨h13⟩ ⟨h14⟩ ⟨h15⟩ ⟨h16⟩
end Go.LX

/- The walk's block, with other alternatives. -/
set_option linter.unusedVariables false
set_option linter.unusedSimpArgs false
namespace Go.LX

/-- The walk, as far as it goes by itself; what is left over is asked for. -/
theorem stpD {G L1 L2 L3 L4 L5 L6 L7 L8 L9 L10 L11 L12 L13 L14 L15 L16 : Prop} (h1 : L1) (h2 : L2) (h3 : L3) (h4 : L4) (h5 : L5) (h6 : L6) (h7 : L7) (h8 : L8) (h9 : L9) (h10 : L10) (h11 : L11) (h12 : L12) (h13 : L13) (h14 : L14) (h15 : L15) (h16 : L16) (zP : Hid L1 → Hid L2 → Hid L3 → Hid L4 → Hid L5 → Hid L6 → Hid L7 → Hid L8 → Hid L9 → Hid L10 → Hid L11 → Hid L12 → Hid L13 → Hid L14 → Hid L15 → Hid L16 → G := by
  intro zh1 zh2 zh3 zh4 zh5 zh6 zh7 zh8 zh9 zh10 zh11 zh12 zh13 zh14 zh15 zh16
  refine Mk.go ?_ ?_
  repeat' (first
    | exact trivial
    | (refine inWO ?_; first
      | refine WO_runE (nw := true) rfl rfl ?_ ?_
      | refine WO_runG (nw := true) rfl rfl rfl rfl rfl ?_ ?_
      | refine WO_runG1 (nw := true) rfl rfl rfl rfl rfl ?_ ?_
      | refine WO_runU (nw := true) rfl rfl rfl rfl rfl ?_ ?_
      | refine WO_run1 (nw := true) rfl rfl ?_ ?_
      | refine WO_cons rfl ?_
      | refine WO_gT rfl rfl rfl rfl rfl ?_
      | (refine WO_split rfl rfl rfl rfl ?_ ?_ <;> intro zq <;> try (exfalso; clear zh1 zh2 zh3 zh4 zh5 zh6 zh7 zh8 zh9 zh10 zh11 zh12 zh13 zh14 zh15 zh16; (simp_all) <;> omega))
      | refine WO_nil ?_)
    | (refine inRW ?_; first
      | refine RW_runE (nw := true) rfl rfl (fun _ _ => rfl) rfl ?_ ?_
      | refine RW_runG (nw := true) rfl rfl rfl rfl rfl (fun _ _ => rfl) rfl ?_ ?_
      | refine RW_runG1 (nw := true) rfl rfl rfl rfl rfl (fun _ _ => rfl) rfl ?_ ?_
      | refine RW_runU (nw := true) rfl rfl rfl rfl rfl (fun _ _ => rfl) rfl ?_ ?_
      | refine RW_run1 (nw := true) rfl rfl (fun _ _ => rfl) rfl ?_ ?_
      | refine RW_op (us := ?_) (ub := ?_) (fp := ?_) rfl (fun zs0 zb0 => ?_) ?_ ?_
      | refine RW_opT (us := ?_) (ub := ?_) (fp := ?_) rfl rfl rfl rfl (fun zs0 zb0 => ?_) ?_ ?_
      | (refine RW_split rfl rfl rfl ?_ ?_ <;> intro zq <;> try (exfalso; clear zh1 zh2 zh3 zh4 zh5 zh6 zh7 zh8 zh9 zh10 zh11 zh12 zh13 zh14 zh15 zh16; (simp_all) <;> omega))
      | refine RW_nil ?_ (by first | decide +kernel | kernel_rfl))
    | (refine gate 1 rfl ?_; first
      | (refine' callDp false zD1 rfl ?zc ?_ ?_; case zc => repeat' (first | exact trivial | refine And.intro ?_ ?_ | rfl))
      | (refine' callDp false zD2 rfl ?zc ?_ ?_; case zc => repeat' (first | exact trivial | refine And.intro ?_ ?_ | rfl))
      | (refine' callDp false zD3 rfl ?zc ?_ ?_; case zc => repeat' (first | exact trivial | refine And.intro ?_ ?_ | rfl))
      | (refine' callDp false zD4 rfl ?zc ?_ ?_; case zc => repeat' (first | exact trivial | refine And.intro ?_ ?_ | rfl))
      | (refine' callDp false zD5 rfl ?zc ?_ ?_; case zc => repeat' (first | exact trivial | refine And.intro ?_ ?_ | rfl))
      | (refine' callDp false zD6 rfl ?zc ?_ ?_; case zc => repeat' (first | exact trivial | refine And.intro ?_ ?_ | rfl))
      | (refine' callDp false zD7 rfl ?zc ?_ ?_; case zc => repeat' (first | exact trivial | refine And.intro ?_ ?_ | rfl))
      | (refine' callDp false zD8 rfl ?zc ?_ ?_; case zc => repeat' (first | exact trivial | refine And.intro ?_ ?_ | rfl))
      | (refine' callDp false zD9 rfl ?zc ?_ ?_; case zc => repeat' (first | exact trivial | refine And.intro ?_ ?_ | rfl))
      | (refine' callDp false zD10 rfl ?zc ?_ ?_; case zc => repeat' (first | exact trivial | refine And.intro ?_ ?_ | rfl))
      | (refine' callDp false zD11 rfl ?zc ?_ ?_; case zc => repeat' (first | exact trivial | refine And.intro ?_ ?_ | rfl))
      | (refine' callDp false zD12 rfl ?zc ?_ ?_; case zc => repeat' (first | exact trivial | refine And.intro ?_ ?_ | rfl))
      | (refine' callDp true zE1 rfl ?zc ?_ ?_; case zc => repeat' (first | exact trivial | refine And.intro ?_ ?_ | rfl))
      | (refine' callDp true zE2 rfl ?zc ?_ ?_; case zc => repeat' (first | exact trivial | refine And.intro ?_ ?_ | rfl))
      | (refine' callDp true zE3 rfl ?zc ?_ ?_; case zc => repeat' (first | exact trivial | refine And.intro ?_ ?_ | rfl))
      | (refine' callDp true zE4 rfl ?zc ?_ ?_; case zc => repeat' (first | exact trivial | refine And.intro ?_ ?_ | rfl))
      | (refine' callDp true zE5 rfl ?zc ?_ ?_; case zc => repeat' (first | exact trivial | refine And.intro ?_ ?_ | rfl))
      | (refine' callDp true zE6 rfl ?zc ?_ ?_; case zc => repeat' (first | exact trivial | refine And.intro ?_ ?_ | rfl))
      | (refine' callDp true zE7 rfl ?zc ?_ ?_; case zc => repeat' (first | exact trivial | refine And.intro ?_ ?_ | rfl))
      | (refine' callDp true zE8 rfl ?zc ?_ ?_; case zc => repeat' (first | exact trivial | refine And.intro ?_ ?_ | rfl))
      | (refine' callDp true zE9 rfl ?zc ?_ ?_; case zc => repeat' (first | exact trivial | refine And.intro ?_ ?_ | rfl))
      | (refine' callBp zB1 rfl ?zc ?_ ?_; case zc => repeat' (first | exact trivial | refine And.intro ?_ ?_ | rfl))
      | (refine' callBp zB2 rfl ?zc ?_ ?_; case zc => repeat' (first | exact trivial | refine And.intro ?_ ?_ | rfl))
      | (refine' callBp zB3 rfl ?zc ?_ ?_; case zc => repeat' (first | exact trivial | refine And.intro ?_ ?_ | rfl))
      | (refine' callBp zB4 rfl ?zc ?_ ?_; case zc => repeat' (first | exact trivial | refine And.intro ?_ ?_ | rfl))
      | (refine' callBp zB5 rfl ?zc ?_ ?_; case zc => repeat' (first | exact trivial | refine And.intro ?_ ?_ | rfl))
      | (refine' callBp zB6 rfl ?zc ?_ ?_; case zc => repeat' (first | exact trivial | refine And.intro ?_ ?_ | rfl))
      | (refine' callBp zB7 rfl ?zc ?_ ?_; case zc => repeat' (first | exact trivial | refine And.intro ?_ ?_ | rfl))
      | (refine' callBp zB8 rfl ?zc ?_ ?_; case zc => repeat' (first | exact trivial | refine And.intro ?_ ?_ | rfl))
      | (refine' callBp zB9 rfl ?zc ?_ ?_; case zc => repeat' (first | exact trivial | refine And.intro ?_ ?_ | rfl))
      | (refine' callBp zB10 rfl ?zc ?_ ?_; case zc => repeat' (first | exact trivial | refine And.intro ?_ ?_ | rfl))
      | (refine' callBp zB11 rfl ?zc ?_ ?_; case zc => repeat' (first | exact trivial | refine And.intro ?_ ?_ | rfl))
      | (refine' callBp zB12 rfl ?zc ?_ ?_; case zc => repeat' (first | exact trivial | refine And.intro ?_ ?_ | rfl))
      | (refine' callBRp zQ1 rfl ?zc ?_ (fun zr zv => ?_); case zc => repeat' (first | exact trivial | refine And.intro ?_ ?_ | rfl | (intro zr; rfl)))
      | (refine' callBRp zQ2 rfl ?zc ?_ (fun zr zv => ?_); case zc => repeat' (first | exact trivial | refine And.intro ?_ ?_ | rfl | (intro zr; rfl)))
      | (refine' callBRp zQ3 rfl ?zc ?_ (fun zr zv => ?_); case zc => repeat' (first | exact trivial | refine And.intro ?_ ?_ | rfl | (intro zr; rfl)))
      | (refine' callBRp zQ4 rfl ?zc ?_ (fun zr zv => ?_); case zc => repeat' (first | exact trivial | refine And.intro ?_ ?_ | rfl | (intro zr; rfl)))
      | (refine' callBRp zQ5 rfl ?zc ?_ (fun zr zv => ?_); case zc => repeat' (first | exact trivial | refine And.intro ?_ ?_ | rfl | (intro zr; rfl)))
      | (refine' callBRp zQ6 rfl ?zc ?_ (fun zr zv => ?_); case zc => repeat' (first | exact trivial | refine And.intro ?_ ?_ | rfl | (intro zr; rfl)))
      | (refine' callBRp zQ7 rfl ?zc ?_ (fun zr zv => ?_); case zc => repeat' (first | exact trivial | refine And.intro ?_ ?_ | rfl | (intro zr; rfl)))
      | (refine' callBRp zQ8 rfl ?zc ?_ (fun zr zv => ?_); case zc => repeat' (first | exact trivial | refine And.intro ?_ ?_ | rfl | (intro zr; rfl)))
      | (refine' callBRp zQ9 rfl ?zc ?_ (fun zr zv => ?_); case zc => repeat' (first | exact trivial | refine And.intro ?_ ?_ | rfl | (intro zr; rfl)))
      | (refine' callRp false zR1 rfl ?zc ?_ (fun zr zv => ?_); case zc => repeat' (first | exact trivial | refine And.intro ?_ ?_ | rfl | (intro zr; rfl)))
      | (refine' callRp false zR2 rfl ?zc ?_ (fun zr zv => ?_); case zc => repeat' (first | exact trivial | refine And.intro ?_ ?_ | rfl | (intro zr; rfl)))
      | (refine' callRp false zR3 rfl ?zc ?_ (fun zr zv => ?_); case zc => repeat' (first | exact trivial | refine And.intro ?_ ?_ | rfl | (intro zr; rfl)))
      | (refine' callRp false zR4 rfl ?zc ?_ (fun zr zv => ?_); case zc => repeat' (first | exact trivial | refine And.intro ?_ ?_ | rfl | (intro zr; rfl)))
      | (refine' callRp false zR5 rfl ?zc ?_ (fun zr zv => ?_); case zc => repeat' (first | exact trivial | refine And.intro ?_ ?_ | rfl | (intro zr; rfl)))
      | (refine' callRp false zR6 rfl ?zc ?_ (fun zr zv => ?_); case zc => repeat' (first | exact trivial | refine And.intro ?_ ?_ | rfl | (intro zr; rfl)))
      | (refine' callRp true zS1 rfl ?zc ?_ (fun zr zv => ?_); case zc => repeat' (first | exact trivial | refine And.intro ?_ ?_ | rfl | (intro zr; rfl)))
      | (refine' callRp true zS2 rfl ?zc ?_ (fun zr zv => ?_); case zc => repeat' (first | exact trivial | refine And.intro ?_ ?_ | rfl | (intro zr; rfl)))
      | (refine' callRp true zS3 rfl ?zc ?_ (fun zr zv => ?_); case zc => repeat' (first | exact trivial | refine And.intro ?_ ?_ | rfl | (intro zr; rfl)))
      | (refine' callRp true zS4 rfl ?zc ?_ (fun zr zv => ?_); case zc => repeat' (first | exact trivial | refine And.intro ?_ ?_ | rfl | (intro zr; rfl)))
      | (refine' callRp true zS5 rfl ?zc ?_ (fun zr zv => ?_); case zc => repeat' (first | exact trivial | refine And.intro ?_ ?_ | rfl | (intro zr; rfl)))
      | (refine' callRp true zS6 rfl ?zc ?_ (fun zr zv => ?_); case zc => repeat' (first | exact trivial | refine And.intro ?_ ?_ | rfl | (intro zr; rfl)))
      | (refine' callXp zX1 rfl ?zc ?_ ?_; case zc => repeat' (first | exact trivial | refine And.intro ?_ ?_ | rfl))
      | (refine' callXp zX2 rfl ?zc ?_ ?_; case zc => repeat' (first | exact trivial | refine And.intro ?_ ?_ | rfl))
      | (refine' callXp zX3 rfl ?zc ?_ ?_; case zc => repeat' (first | exact trivial | refine And.intro ?_ ?_ | rfl))
      | (refine' callOp zO1 rfl ?zc ?_ ?_; case zc => repeat' (first | exact trivial | refine And.intro ?_ ?_ | rfl))
      | (refine' callOp zO2 rfl ?zc ?_ ?_; case zc => repeat' (first | exact trivial | refine And.intro ?_ ?_ | rfl))
      | (refine' callOp zO3 rfl ?zc ?_ ?_; case zc => repeat' (first | exact trivial | refine And.intro ?_ ?_ | rfl))
      | (refine' callAp zA1 rfl ?zc ?_ ?_; case zc => repeat' (first | exact trivial | refine And.intro ?_ ?_ | rfl))
      | (refine' callAp zA2 rfl ?zc ?_ ?_; case zc => repeat' (first | exact trivial | refine And.intro ?_ ?_ | rfl))
      | (refine' callAp zA3 rfl ?zc ?_ ?_; case zc => repeat' (first | exact trivial | refine And.intro ?_ ?_ | rfl))
      | (refine' callMp zM1 rfl ?zc ?_ ?_; case zc => repeat' (first | exact trivial | refine And.intro ?_ ?_ | rfl))
      | (refine' callMp zM2 rfl ?zc ?_ ?_; case zc => repeat' (first | exact trivial | refine And.intro ?_ ?_ | rfl))
      | (refine' callMp zM3 rfl ?zc ?_ ?_; case zc => repeat' (first | exact trivial | refine And.intro ?_ ?_ | rfl))
      | (refine callNp 0 (fun zt => zN1 zt) rfl rfl rfl rfl (fun _ => rfl) rfl rfl rfl rfl rfl (fun _ => ⟨rfl, trivial⟩) (fun _ => rfl) (fun _ => rfl) rfl rfl ?_ ?_)
      | (refine callNp 0 (fun zt => zN1 zt) rfl rfl rfl rfl (fun _ => rfl) rfl rfl rfl rfl rfl (fun _ => ?_) (fun _ => rfl) (fun _ => rfl) rfl rfl ?_ ?_; focus repeat' (first | exact trivial | refine And.intro ?_ ?_ | rfl))
      | (refine callNp 1 (fun zt => zN1 zt) rfl rfl rfl rfl (fun _ => rfl) rfl rfl rfl rfl rfl (fun _ => ?_) (fun _ => rfl) (fun _ => rfl) rfl rfl ?_ ?_; focus repeat' (first | exact trivial | refine And.intro ?_ ?_ | rfl))
      | (refine callNp 0 (fun zt => zN2 zt) rfl rfl rfl rfl (fun _ => rfl) rfl rfl rfl rfl rfl (fun _ => ⟨rfl, trivial⟩) (fun _ => rfl) (fun _ => rfl) rfl rfl ?_ ?_)
      | (refine callNp 0 (fun zt => zN2 zt) rfl rfl rfl rfl (fun _ => rfl) rfl rfl rfl rfl rfl (fun _ => ?_) (fun _ => rfl) (fun _ => rfl) rfl rfl ?_ ?_; focus repeat' (first | exact trivial | refine And.intro ?_ ?_ | rfl))
      | (refine callNp 1 (fun zt => zN2 zt) rfl rfl rfl rfl (fun _ => rfl) rfl rfl rfl rfl rfl (fun _ => ?_) (fun _ => rfl) (fun _ => rfl) rfl rfl ?_ ?_; focus repeat' (first | exact trivial | refine And.intro ?_ ?_ | rfl))
      | (refine callNp 0 (fun zt => zN3 zt) rfl rfl rfl rfl (fun _ => rfl) rfl rfl rfl rfl rfl (fun _ => ⟨rfl, trivial⟩) (fun _ => rfl) (fun _ => rfl) rfl rfl ?_ ?_)
      | (refine callNp 0 (fun zt => zN3 zt) rfl rfl rfl rfl (fun _ => rfl) rfl rfl rfl rfl rfl (fun _ => ?_) (fun _ => rfl) (fun _ => rfl) rfl rfl ?_ ?_; focus repeat' (first | exact trivial | refine And.intro ?_ ?_ | rfl))
      | (refine callNp 1 (fun zt => zN3 zt) rfl rfl rfl rfl (fun _ => rfl) rfl rfl rfl rfl rfl (fun _ => ?_) (fun _ => rfl) (fun _ => rfl) rfl rfl ?_ ?_; focus repeat' (first | exact trivial | refine And.intro ?_ ?_ | rfl))
      | (refine' callVp false zV1 rfl ?zc ?_ ?_; case zc => repeat' (first | exact trivial | refine And.intro ?_ ?_ | rfl))
      | (refine' callVp false zV2 rfl ?zc ?_ ?_; case zc => repeat' (first | exact trivial | refine And.intro ?_ ?_ | rfl))
      | (refine' callVp false zV3 rfl ?zc ?_ ?_; case zc => repeat' (first | exact trivial | refine And.intro ?_ ?_ | rfl))
      | (refine' callVp true zW1 rfl ?zc ?_ ?_; case zc => repeat' (first | exact trivial | refine And.intro ?_ ?_ | rfl))
      | (refine' callVp true zW2 rfl ?zc ?_ ?_; case zc => repeat' (first | exact trivial | refine And.intro ?_ ?_ | rfl))
      | (refine' callVp true zW3 rfl ?zc ?_ ?_; case zc => repeat' (first | exact trivial | refine And.intro ?_ ?_ | rfl)))
    | (refine gate 5 rfl ?_; first
      | refine litR rfl rfl rfl rfl rfl rfl rfl rfl ?_
      | refine litW rfl rfl rfl rfl rfl rfl ?_)
    | (refine gate 2 rfl ?_; first
      | refine apOS rfl rfl rfl rfl rfl rfl rfl rfl rfl rfl rfl ?_ ?_ ?_
      | refine apOL rfl rfl rfl rfl rfl rfl rfl rfl rfl rfl rfl rfl ?_ ?_ ?_
      | refine apNS rfl rfl rfl rfl rfl rfl rfl rfl rfl rfl rfl ?_ ?_ ?_
      | refine apNL rfl rfl rfl rfl rfl rfl rfl rfl rfl rfl rfl rfl ?_ ?_ ?_
      | refine apDO rfl rfl rfl rfl rfl rfl rfl rfl rfl rfl rfl rfl rfl rfl ?_ ?_ ?_
      | refine apDN rfl rfl rfl rfl rfl rfl rfl rfl rfl rfl rfl rfl rfl rfl ?_ ?_ ?_
      | refine op_apMk _ rfl rfl rfl rfl rfl rfl rfl rfl rfl rfl rfl rfl rfl ?_ ?_ ?_ ?_
      | refine apDS rfl rfl rfl rfl rfl rfl rfl rfl rfl rfl rfl ?_ ?_ ?_)
    | (refine gate 6 rfl ?_; refine mkS rfl rfl rfl rfl rfl rfl rfl rfl rfl rfl rfl rfl rfl ?_ ?_ ?_ ?_)
    | (refine gate 6 rfl ?_; refine op_makeD _ rfl rfl rfl rfl rfl rfl rfl rfl rfl rfl rfl rfl rfl ?_ ?_ ?_ ?_)
    | (refine gate 0 rfl ?_; refine op_storeD rfl rfl rfl rfl rfl rfl rfl rfl rfl rfl ?_)
    | (refine gate 3 rfl ?_; refine op_capN rfl rfl rfl rfl rfl ?_)
    | (refine gate 3 rfl ?_; refine op_copy rfl rfl rfl rfl rfl rfl rfl rfl rfl rfl rfl ?_)
    | (refine gate 9 rfl ?_; refine op_bs rfl rfl rfl rfl rfl rfl rfl rfl ?_)
    | (refine gate 9 rfl ?_; refine op_bs rfl rfl rfl rfl rfl rfl rfl rfl ?_)
    | (refine gate 9 rfl ?_; refine op_cvF rfl rfl rfl rfl rfl rfl rfl rfl ?_)
    | (refine gate 8 rfl ?_; refine op_mkFn rfl rfl rfl rfl ?_)
    | (refine gate 7 rfl ?_; refine op_nil rfl rfl rfl rfl rfl rfl (fun zb zhb => ?_))
    | (refine gate 7 rfl ?_; refine op_seq rfl rfl rfl rfl rfl rfl rfl (by first | decide +kernel | kernel_rfl) rfl ?_)
    | (refine inW ?_; first
      | refine W_seq ?_
      | refine W_region ?_
      | refine W_block ?_
      | refine W_skip ?_
      | refine W_exit ?_
      | refine W_ret ?_
      | refine W_condT rfl rfl ?_
      | refine W_condF rfl rfl ?_
      | (refine W_condB rfl ?_ ?_ <;> intro zq <;> try (exfalso; clear zh1 zh2 zh3 zh4 zh5 zh6 zh7 zh8 zh9 zh10 zh11 zh12 zh13 zh14 zh15 zh16; (simp_all) <;> omega)))
    | (refine inE ?_; first
      | refine end_d rfl rfl rfl rfl ?_ ?_
      | refine end_o rfl rfl rfl rfl ?_ ?_
      | refine end_of rfl rfl rfl ?_ ?_)
    | refine ⟨_, _, _, rfl, rfl, rfl, rfl, ?_⟩
    | refine rsOne ?_
    | refine msPd rfl ?_
    | refine msPn ?_
    | refine msPo rfl ?_
    | refine And.intro ?_ ?_
    | (show List.length _ ≠ 1; simp)
    | (show (_ : Int) ≤ _; first | omega | (simp [IntKind.bits, dflt] <;> omega) | (clear zh1 zh2 zh3 zh4 zh5 zh6 zh7 zh8 zh9 zh10 zh11 zh12 zh13 zh14 zh15 zh16; simp at *; omega))
    | (show (_ : Int) < _; first | omega | (simp [IntKind.bits, dflt] <;> omega) | (clear zh1 zh2 zh3 zh4 zh5 zh6 zh7 zh8 zh9 zh10 zh11 zh12 zh13 zh14 zh15 zh16; simp at *; omega))
    | (show (_ : Nat) ≤ _; first | omega | (unfold maxLen; omega) | (simp [IntKind.bits, dflt] <;> omega) | (clear zh1 zh2 zh3 zh4 zh5 zh6 zh7 zh8 zh9 zh10 zh11 zh12 zh13 zh14 zh15 zh16; simp at *; omega))
    | rfl)
  all_goals (repeat (first | revert zq | revert zv | revert zr | revert zhb | revert zb))
  all_goals (first | ((first | have : True := zh1.1 | skip); (first | have : True := zh2.1 | skip); (first | have : True := zh3.1 | skip); (first | have : True := zh4.1 | skip); (first | have : True := zh5.1 | skip); (first | have : True := zh6.1 | skip); (first | have : True := zh7.1 | skip); (first | have : True := zh8.1 | skip); (first | have : True := zh9.1 | skip); (first | have : True := zh10.1 | skip); (first | have : True := zh11.1 | skip); (first | have : True := zh12.1 | skip); (first | have : True := zh13.1 | skip); (first | have : True := zh14.1 | skip); (first | have : True := zh15.1 | skip); (first | have : True := zh16.1 | skip); exact Mk.mk) | with_reducible exact zh1.1 | with_reducible exact zh2.1 | with_reducible exact zh3.1 | with_reducible exact zh4.1 | with_reducible exact zh5.1 | with_reducible exact zh6.1 | with_reducible exact zh7.1 | with_reducible exact zh8.1 | with_reducible exact zh9.1 | with_reducible exact zh10.1 | with_reducible exact zh11.1 | with_reducible exact zh12.1 | with_reducible exact zh13.1 | with_reducible exact zh14.1 | with_reducible exact zh15.1 | with_reducible exact zh16.1)
  ) : G := zP ⟨h1⟩ ⟨h2⟩ ⟨h3⟩ ⟨h4⟩ ⟨h5⟩ ⟨h6⟩ ⟨h7⟩ ⟨h8⟩ ⟨h9⟩ ⟨h10⟩ ⟨h11⟩ ⟨h12⟩ ⟨h13⟩ ⟨h14⟩ ⟨h15⟩ ⟨h16⟩
end Go.LX

/- Are two structs of numbers alike? -/
set_option linter.unusedVariables false
set_option linter.unusedSimpArgs false
namespace Go.LX

variable {P : Program} {σ : St}

/-- Numbers and truth values at the fields' places. -/
def eqS (P : Program) (cs ds : List C) : List Field → Option Bool
  | [] => some true
  | f :: fs => match P.underlying f.type, cs[f.offset]?, ds[f.offset]?, eqS P cs ds fs with
    | some (.int _), some (.d (.i k1) a), some (.d (.i k2) b), some r => match decEq k1 k2 with
      | isTrue _ => some (decide (a = b) && r)
      | isFalse _ => none
    | _, _, _, _ => none
theorem run_part1 {ty : TypeId} {us : List Value} {n : Nat} {v : Value} (h : aggB P ty = some false) (hv : us[n]? = some v) (w : World) : (part ty us.toArray n).run P w = .ok v w := by
  simp [part, run_isAgg h, hv]
theorem agg_int {ty : TypeId} {k : IntKind} (h : P.underlying ty = some (.int k)) : aggB P ty = some false := by
  unfold aggB; rw [h]; rfl
theorem run_eqS {d : Nat} {cs ds : List C} {us vs : List Value} {w w0 : World} {I : Nat → Prop} {g : Gh} {ob : Nat → Option Ob} (hu : ∀ (i : Nat) (c : C), cs[i]? = some c → ∃ v, us[i]? = some v ∧ CR w0 I g ob c v) (hv : ∀ (i : Nat) (c : C), ds[i]? = some c → ∃ v, vs[i]? = some v ∧ CR w0 I g ob c v) :
    ∀ {fs : List Field} {q : Bool}, (fs.all fun f => f.name != "_") = true → eqS P cs ds fs = some q → (Op.eqFields (d + 1) us.toArray vs.toArray fs).run P w = .ok q w
  | [], q, _, h => by cases h; rfl
  | f :: fs, q, hn, h => by
    simp only [List.all_cons, Bool.and_eq_true, bne_iff_ne, ne_eq] at hn
    unfold eqS at h
    split at h
    · rename_i k k1 a k2 b r e1 e2 e3 e4
      split at h
      · rename_i hk _
        subst hk
        cases h
        obtain ⟨u, hu1, hu2⟩ := hu _ _ e2
        obtain ⟨v, hv1, hv2⟩ := hv _ _ e3
        have hu2 : [u] = [Value.int k1 a] := hu2
        have hv2 : [v] = [Value.int k1 b] := hv2
        simp only [List.cons.injEq, and_true] at hu2 hv2
        subst hu2; subst hv2
        have ih := run_eqS (d := d) (w := w) hu hv hn.2 e4
        unfold Op.eqFields
        rw [if_pos hn.1]
        simp only [Sem.run_bind, run_part1 (agg_int e1) hu1, run_part1 (agg_int e1) hv1, Result.andThen_ok, run_equalIn_int w d f.type k1 k a b e1]
        by_cases hab : a = b
        · subst hab
          simp [ih]
        · have : (a == b) = false := by simpa using hab
          rw [this]
          simp [hab]
      · cases h
    · cases h
def seqOp (o : Op) : Option (Bool × TypeId × Operand × Operand) := match o with
  | .binOp .eql ty x y _ => some (true, ty, x, y)
  | .binOp .neq ty x y _ => some (false, ty, x, y)
  | _ => none
theorem op_seq [Glob] {o : Oper} {t : Nat} {pol : Bool} {ty : TypeId} {x y : Operand} {cs ds : List C} {q : Bool} {N : St → Prop} (ho : seqOp o.op = some (pol, ty, x, y)) (hd : o.dst = some t) (ht : Nat.blt t σ.n = true) (hx : σ.ev x = .ag cs) (hy : σ.ev y = .ag ds)
    (hq : eqS P cs ds (P.fieldsOf ty).toList = some q) (hty : (P.underlying ty).isSome = true) (hk : (!P.eqGuardType P.depth ty && (!P.stoodInHeld ty && ((P.fieldsOf ty).toList.all fun f => f.name != "_"))) = true) (hst : (match P.underlying ty with | some (.struct _) => true | _ => false) = true)
    (hN : N (σ.over [(t, .one (.d .bo (bif pol then q else !q)))] [])) : OpW P o N σ := by
  intro K w I g tm hi
  obtain ⟨hshx, hcx⟩ := hi.ev x hx
  obtain ⟨us, hu, _, _⟩ := hshx
  obtain ⟨hshy, hcy⟩ := hi.ev y hy
  obtain ⟨vs, hv, _, _⟩ := hshy
  rw [hu] at hcx
  rw [hv] at hcy
  have hcx' : ∀ (i : Nat) (c : C), cs[i]? = some c → ∃ v, us[i]? = some v ∧ CR w I g σ.objs c v := fun i c hi' => by simpa [valCells, Value.cells] using hcx i c hi'
  have hcy' : ∀ (i : Nat) (c : C), ds[i]? = some c → ∃ v, vs[i]? = some v ∧ CR w I g σ.objs c v := fun i c hi' => by simpa [valCells, Value.cells] using hcy i c hi'
  simp only [Bool.and_eq_true, Bool.not_eq_true'] at hk
  obtain ⟨k1, k2, k3⟩ := hk
  have hund : P.underlying ty = some (.struct (P.fieldsOf ty)) := by
    unfold Program.fieldsOf
    split at hst
    · rename_i fs h; rw [h]
    · cases hst
  have heq : (Op.equal ty (.agg us.toArray) (.agg vs.toArray)).run P w = .ok q w := by
    unfold Op.equal
    rw [show Op.maxDepth = 9998 + 1 + 1 from rfl, run_equalIn_struct w _ _ _ _ hund k2]
    exact run_eqS hcx' hcy' k3 hq
  have hrun : (execOp (Act.eval ⟨tm, []⟩) o).run P w = .ok (.value (.bool (bif pol then q else !q))) w := by
    unfold seqOp at ho
    split at ho
    · rename_i h
      cases ho
      simp [execOp, h, eqGuard, binOp, hu, hv, heq, k1]
    · rename_i h
      cases ho
      simp [execOp, h, eqGuard, binOp, hu, hv, heq, k1]
    · cases ho
  rw [hrun]
  simp only [Oper.upon, Act.put, hd]
  refine ⟨trivial, _, I, g, hN, ?_⟩
  rw [← up_put]
  refine hi.put (Nat.le_of_ble_eq_true ht) rfl fun i c hc => ?_
  obtain ⟨rfl, rfl⟩ := one_cell hc
  exact ⟨_, rfl, rfl⟩
theorem RW_runG1 [Glob] {Q : Exit → St → Prop} {ops l : List Oper} {nw : Bool} {j d : Nat} {b : Bool} {acc acc' : List Fp} {L : List (Prop × Upd)} {p : Prop} {l' : List Oper} {σ' : St} (hg : gOf l = some j) (hd : gSlot ops j = some d) (hb : σ.slots d = .one (.d .bo b)) (h0 : simpG1 l = true) (h : drawE P nw ops σ.slots σ.objs 1 l σ = some L) (h2 : ∀ s0 b0, drawE P nw ops s0 b0 1 l σ = some L) (h3 : finE ops 1 l σ acc L = some (p, acc', l', σ')) (hp : p) (hN : RW P ops Q acc' l' σ') : RW P ops Q acc l σ := RW_run h2 h3 hp hN
end Go.LX

/- The walk's block, with other alternatives. -/
set_option linter.unusedVariables false
set_option linter.unusedSimpArgs false
namespace Go.LX

set_option maxRecDepth 4000 in
/-- The walk, as far as it goes by itself; what is left over is asked for. -/
theorem stpM {G L1 L2 L3 L4 L5 L6 L7 L8 L9 L10 L11 L12 L13 L14 L15 L16 L17 L18 L19 L20 L21 L22 L23 L24 L25 L26 L27 L28 : Prop} (h1 : L1) (h2 : L2) (h3 : L3) (h4 : L4) (h5 : L5) (h6 : L6) (h7 : L7) (h8 : L8) (h9 : L9) (h10 : L10) (h11 : L11) (h12 : L12) (h13 : L13) (h14 : L14) (h15 : L15) (h16 : L16) (h17 : L17) (h18 : L18) (h19 : L19) (h20 : L20) (h21 : L21) (h22 : L22) (h23 : L23) (h24 : L24) (h25 : L25) (h26 : L26) (h27 : L27) (h28 : L28) (zP : Hid L1 → Hid L2 → Hid L3 → Hid L4 → Hid L5 → Hid L6 → Hid L7 → Hid L8 → Hid L9 → Hid L10 → Hid L11 → Hid L12 → Hid L13 → Hid L14 → Hid L15 → Hid L16 → Hid L17 → Hid L18 → Hid L19 → Hid L20 → Hid L21 → Hid L22 → Hid L23 → Hid L24 → Hid L25 → Hid L26 → Hid L27 → Hid L28 → G := by
  intro zh1 zh2 zh3 zh4 zh5 zh6 zh7 zh8 zh9 zh10 zh11 zh12 zh13 zh14 zh15 zh16 zh17 zh18 zh19 zh20 zh21 zh22 zh23 zh24 zh25 zh26 zh27 zh28
  refine Mk.go ?_ ?_
  repeat' (first
    | exact trivial
    | (refine inWO ?_; first
      | refine WO_runE (nw := true) rfl rfl ?_ ?_
      | refine WO_runG (nw := true) rfl rfl rfl rfl rfl ?_ ?_
      | refine WO_runG1 (nw := true) rfl rfl rfl rfl rfl ?_ ?_
      | refine WO_runU (nw := true) rfl rfl rfl rfl rfl ?_ ?_
      | refine WO_run1 (nw := true) rfl rfl ?_ ?_
      | refine WO_cons rfl ?_
      | refine WO_gT rfl rfl rfl rfl rfl ?_
      | (refine WO_split rfl rfl rfl rfl ?_ ?_ <;> intro zq <;> try (exfalso; clear zh1 zh2 zh3 zh4 zh5 zh6 zh7 zh8 zh9 zh10 zh11 zh12 zh13 zh14 zh15 zh16 zh17 zh18 zh19 zh20 zh21 zh22 zh23 zh24 zh25 zh26 zh27 zh28; (simp_all) <;> omega))
      | refine WO_nil ?_)
    | (refine inRW ?_; first
      | refine RW_runE (nw := true) rfl rfl (fun _ _ => rfl) rfl ?_ ?_
      | refine RW_runG (nw := true) rfl rfl rfl rfl rfl (fun _ _ => rfl) rfl ?_ ?_
      | refine RW_runG1 (nw := true) rfl rfl rfl rfl rfl (fun _ _ => rfl) rfl ?_ ?_
      | refine RW_runU (nw := true) rfl rfl rfl rfl rfl (fun _ _ => rfl) rfl ?_ ?_
      | refine RW_run1 (nw := true) rfl rfl (fun _ _ => rfl) rfl ?_ ?_
      | refine RW_op (us := ?_) (ub := ?_) (fp := ?_) rfl (fun zs0 zb0 => ?_) ?_ ?_
      | refine RW_opT (us := ?_) (ub := ?_) (fp := ?_) rfl rfl rfl rfl (fun zs0 zb0 => ?_) ?_ ?_
      | (refine RW_split rfl rfl rfl ?_ ?_ <;> intro zq <;> try (exfalso; clear zh1 zh2 zh3 zh4 zh5 zh6 zh7 zh8 zh9 zh10 zh11 zh12 zh13 zh14 zh15 zh16 zh17 zh18 zh19 zh20 zh21 zh22 zh23 zh24 zh25 zh26 zh27 zh28; (simp_all) <;> omega))
      | refine RW_nil ?_ (by first | decide +kernel | kernel_rfl))
    | (refine gate 1 rfl ?_; first
      | (refine' callDp false zD1 rfl ?zc ?_ ?_; case zc => repeat' (first | exact trivial | refine And.intro ?_ ?_ | rfl))
      | (refine' callDp false zD2 rfl ?zc ?_ ?_; case zc => repeat' (first | exact trivial | refine And.intro ?_ ?_ | rfl))
      | (refine' callDp false zD3 rfl ?zc ?_ ?_; case zc => repeat' (first | exact trivial | refine And.intro ?_ ?_ | rfl))
      | (refine' callDp false zD4 rfl ?zc ?_ ?_; case zc => repeat' (first | exact trivial | refine And.intro ?_ ?_ | rfl))
      | (refine' callDp false zD5 rfl ?zc ?_ ?_; case zc => repeat' (first | exact trivial | refine And.intro ?_ ?_ | rfl))
      | (refine' callDp false zD6 rfl ?zc ?_ ?_; case zc => repeat' (first | exact trivial | refine And.intro ?_ ?_ | rfl))
      | (refine' callDp false zD7 rfl ?zc ?_ ?_; case zc => repeat' (first | exact trivial | refine And.intro ?_ ?_ | rfl))
      | (refine' callDp false zD8 rfl ?zc ?_ ?_; case zc => repeat' (first | exact trivial | refine And.intro ?_ ?_ | rfl))
      | (refine' callDp false zD9 rfl ?zc ?_ ?_; case zc => repeat' (first | exact trivial | refine And.intro ?_ ?_ | rfl))
      | (refine' callDp false zD10 rfl ?zc ?_ ?_; case zc => repeat' (first | exact trivial | refine And.intro ?_ ?_ | rfl))
      | (refine' callDp false zD11 rfl ?zc ?_ ?_; case zc => repeat' (first | exact trivial | refine And.intro ?_ ?_ | rfl))
      | (refine' callDp false zD12 rfl ?zc ?_ ?_; case zc => repeat' (first | exact trivial | refine And.intro ?_ ?_ | rfl))
      | (refine' callDp true zE1 rfl ?zc ?_ ?_; case zc => repeat' (first | exact trivial | refine And.intro ?_ ?_ | rfl))
      | (refine' callDp true zE2 rfl ?zc ?_ ?_; case zc => repeat' (first | exact trivial | refine And.intro ?_ ?_ | rfl))
      | (refine' callDp true zE3 rfl ?zc ?_ ?_; case zc => repeat' (first | exact trivial | refine And.intro ?_ ?_ | rfl))
      | (refine' callDp true zE4 rfl ?zc ?_ ?_; case zc => repeat' (first | exact trivial | refine And.intro ?_ ?_ | rfl))
      | (refine' callDp true zE5 rfl ?zc ?_ ?_; case zc => repeat' (first | exact trivial | refine And.intro ?_ ?_ | rfl))
      | (refine' callDp true zE6 rfl ?zc ?_ ?_; case zc => repeat' (first | exact trivial | refine And.intro ?_ ?_ | rfl))
      | (refine' callDp true zE7 rfl ?zc ?_ ?_; case zc => repeat' (first | exact trivial | refine And.intro ?_ ?_ | rfl))
      | (refine' callDp true zE8 rfl ?zc ?_ ?_; case zc => repeat' (first | exact trivial | refine And.intro ?_ ?_ | rfl))
      | (refine' callDp true zE9 rfl ?zc ?_ ?_; case zc => repeat' (first | exact trivial | refine And.intro ?_ ?_ | rfl))
      | (refine' callBp zB1 rfl ?zc ?_ ?_; case zc => repeat' (first | exact trivial | refine And.intro ?_ ?_ | rfl))
      | (refine' callBp zB2 rfl ?zc ?_ ?_; case zc => repeat' (first | exact trivial | refine And.intro ?_ ?_ | rfl))
      | (refine' callBp zB3 rfl ?zc ?_ ?_; case zc => repeat' (first | exact trivial | refine And.intro ?_ ?_ | rfl))
      | (refine' callBp zB4 rfl ?zc ?_ ?_; case zc => repeat' (first | exact trivial | refine And.intro ?_ ?_ | rfl))
      | (refine' callBp zB5 rfl ?zc ?_ ?_; case zc => repeat' (first | exact trivial | refine And.intro ?_ ?_ | rfl))
      | (refine' callBp zB6 rfl ?zc ?_ ?_; case zc => repeat' (first | exact trivial | refine And.intro ?_ ?_ | rfl))
      | (refine' callBp zB7 rfl ?zc ?_ ?_; case zc => repeat' (first | exact trivial | refine And.intro ?_ ?_ | rfl))
      | (refine' callBp zB8 rfl ?zc ?_ ?_; case zc => repeat' (first | exact trivial | refine And.intro ?_ ?_ | rfl))
      | (refine' callBp zB9 rfl ?zc ?_ ?_; case zc => repeat' (first | exact trivial | refine And.intro ?_ ?_ | rfl))
      | (refine' callBp zB10 rfl ?zc ?_ ?_; case zc => repeat' (first | exact trivial | refine And.intro ?_ ?_ | rfl))
      | (refine' callBp zB11 rfl ?zc ?_ ?_; case zc => repeat' (first | exact trivial | refine And.intro ?_ ?_ | rfl))
      | (refine' callBp zB12 rfl ?zc ?_ ?_; case zc => repeat' (first | exact trivial | refine And.intro ?_ ?_ | rfl))
      | (refine' callBRp zQ1 rfl ?zc ?_ (fun zr zv => ?_); case zc => repeat' (first | exact trivial | refine And.intro ?_ ?_ | rfl | (intro zr; rfl)))
      | (refine' callBRp zQ2 rfl ?zc ?_ (fun zr zv => ?_); case zc => repeat' (first | exact trivial | refine And.intro ?_ ?_ | rfl | (intro zr; rfl)))
      | (refine' callBRp zQ3 rfl ?zc ?_ (fun zr zv => ?_); case zc => repeat' (first | exact trivial | refine And.intro ?_ ?_ | rfl | (intro zr; rfl)))
      | (refine' callBRp zQ4 rfl ?zc ?_ (fun zr zv => ?_); case zc => repeat' (first | exact trivial | refine And.intro ?_ ?_ | rfl | (intro zr; rfl)))
      | (refine' callBRp zQ5 rfl ?zc ?_ (fun zr zv => ?_); case zc => repeat' (first | exact trivial | refine And.intro ?_ ?_ | rfl | (intro zr; rfl)))
      | (refine' callBRp zQ6 rfl ?zc ?_ (fun zr zv => ?_); case zc => repeat' (first | exact trivial | refine And.intro ?_ ?_ | rfl | (intro zr; rfl)))
      | (refine' callBRp zQ7 rfl ?zc ?_ (fun zr zv => ?_); case zc => repeat' (first | exact trivial | refine And.intro ?_ ?_ | rfl | (intro zr; rfl)))
      | (refine' callBRp zQ8 rfl ?zc ?_ (fun zr zv => ?_); case zc => repeat' (first | exact trivial | refine And.intro ?_ ?_ | rfl | (intro zr; rfl)))
      | (refine' callBRp zQ9 rfl ?zc ?_ (fun zr zv => ?_); case zc => repeat' (first | exact trivial | refine And.intro ?_ ?_ | rfl | (intro zr; rfl)))
      | (refine' callRp false zR1 rfl ?zc ?_ (fun zr zv => ?_); case zc => repeat' (first | exact trivial | refine And.intro ?_ ?_ | rfl | (intro zr; rfl)))
      | (refine' callRp false zR2 rfl ?zc ?_ (fun zr zv => ?_); case zc => repeat' (first | exact trivial | refine And.intro ?_ ?_ | rfl | (intro zr; rfl)))
      | (refine' callRp false zR3 rfl ?zc ?_ (fun zr zv => ?_); case zc => repeat' (first | exact trivial | refine And.intro ?_ ?_ | rfl | (intro zr; rfl)))
      | (refine' callRp false zR4 rfl ?zc ?_ (fun zr zv => ?_); case zc => repeat' (first | exact trivial | refine And.intro ?_ ?_ | rfl | (intro zr; rfl)))
      | (refine' callRp false zR5 rfl ?zc ?_ (fun zr zv => ?_); case zc => repeat' (first | exact trivial | refine And.intro ?_ ?_ | rfl | (intro zr; rfl)))
      | (refine' callRp false zR6 rfl ?zc ?_ (fun zr zv => ?_); case zc => repeat' (first | exact trivial | refine And.intro ?_ ?_ | rfl | (intro zr; rfl)))
      | (refine' callRp true zS1 rfl ?zc ?_ (fun zr zv => ?_); case zc => repeat' (first | exact trivial | refine And.intro ?_ ?_ | rfl | (intro zr; rfl)))
      | (refine' callRp true zS2 rfl ?zc ?_ (fun zr zv => ?_); case zc => repeat' (first | exact trivial | refine And.intro ?_ ?_ | rfl | (intro zr; rfl)))
      | (refine' callRp true zS3 rfl ?zc ?_ (fun zr zv => ?_); case zc => repeat' (first | exact trivial | refine And.intro ?_ ?_ | rfl | (intro zr; rfl)))
      | (refine' callRp true zS4 rfl ?zc ?_ (fun zr zv => ?_); case zc => repeat' (first | exact trivial | refine And.intro ?_ ?_ | rfl | (intro zr; rfl)))
      | (refine' callRp true zS5 rfl ?zc ?_ (fun zr zv => ?_); case zc => repeat' (first | exact trivial | refine And.intro ?_ ?_ | rfl | (intro zr; rfl)))
      | (refine' callRp true zS6 rfl ?zc ?_ (fun zr zv => ?_); case zc => repeat' (first | exact trivial | refine And.intro ?_ ?_ | rfl | (intro zr; rfl)))
      | (refine' callXp zX1 rfl ?zc ?_ ?_; case zc => repeat' (first | exact trivial | refine And.intro ?_ ?_ | rfl))
      | (refine' callXp zX2 rfl ?zc ?_ ?_; case zc => repeat' (first | exact trivial | refine And.intro ?_ ?_ | rfl))
      | (refine' callXp zX3 rfl ?zc ?_ ?_; case zc => repeat' (first | exact trivial | refine And.intro ?_ ?_ | rfl))
      | (refine' callOp zO1 rfl ?zc ?_ ?_; case zc => repeat' (first | exact trivial | refine And.intro ?_ ?_ | rfl))
      | (refine' callOp zO2 rfl ?zc ?_ ?_; case zc => repeat' (first | exact trivial | refine And.intro ?_ ?_ | rfl))
      | (refine' callOp zO3 rfl ?zc ?_ ?_; case zc => repeat' (first | exact trivial | refine And.intro ?_ ?_ | rfl))
      | (refine' callAp zA1 rfl ?zc ?_ ?_; case zc => repeat' (first | exact trivial | refine And.intro ?_ ?_ | rfl))
      | (refine' callAp zA2 rfl ?zc ?_ ?_; case zc => repeat' (first | exact trivial | refine And.intro ?_ ?_ | rfl))
      | (refine' callAp zA3 rfl ?zc ?_ ?_; case zc => repeat' (first | exact trivial | refine And.intro ?_ ?_ | rfl))
      | (refine' callMp zM1 rfl ?zc ?_ ?_; case zc => repeat' (first | exact trivial | refine And.intro ?_ ?_ | rfl))
      | (refine' callMp zM2 rfl ?zc ?_ ?_; case zc => repeat' (first | exact trivial | refine And.intro ?_ ?_ | rfl))
      | (refine' callMp zM3 rfl ?zc ?_ ?_; case zc => repeat' (first | exact trivial | refine And.intro ?_ ?_ | rfl))
      | (refine callNp 0 (fun zt => zN1 zt) rfl rfl rfl rfl (fun _ => rfl) rfl rfl rfl rfl rfl (fun _ => ⟨rfl, trivial⟩) (fun _ => rfl) (fun _ => rfl) rfl rfl ?_ ?_)
      | (refine callNp 0 (fun zt => zN1 zt) rfl rfl rfl rfl (fun _ => rfl) rfl rfl rfl rfl rfl (fun _ => ?_) (fun _ => rfl) (fun _ => rfl) rfl rfl ?_ ?_; focus repeat' (first | exact trivial | refine And.intro ?_ ?_ | rfl))
      | (refine callNp 1 (fun zt => zN1 zt) rfl rfl rfl rfl (fun _ => rfl) rfl rfl rfl rfl rfl (fun _ => ?_) (fun _ => rfl) (fun _ => rfl) rfl rfl ?_ ?_; focus repeat' (first | exact trivial | refine And.intro ?_ ?_ | rfl))
      | (refine callNp 0 (fun zt => zN2 zt) rfl rfl rfl rfl (fun _ => rfl) rfl rfl rfl rfl rfl (fun _ => ⟨rfl, trivial⟩) (fun _ => rfl) (fun _ => rfl) rfl rfl ?_ ?_)
      | (refine callNp 0 (fun zt => zN2 zt) rfl rfl rfl rfl (fun _ => rfl) rfl rfl rfl rfl rfl (fun _ => ?_) (fun _ => rfl) (fun _ => rfl) rfl rfl ?_ ?_; focus repeat' (first | exact trivial | refine And.intro ?_ ?_ | rfl))
      | (refine callNp 1 (fun zt => zN2 zt) rfl rfl rfl rfl (fun _ => rfl) rfl rfl rfl rfl rfl (fun _ => ?_) (fun _ => rfl) (fun _ => rfl) rfl rfl ?_ ?_; focus repeat' (first | exact trivial | refine And.intro ?_ ?_ | rfl))
      | (refine callNp 0 (fun zt => zN3 zt) rfl rfl rfl rfl (fun _ => rfl) rfl rfl rfl rfl rfl (fun _ => ⟨rfl, trivial⟩) (fun _ => rfl) (fun _ => rfl) rfl rfl ?_ ?_)
      | (refine callNp 0 (fun zt => zN3 zt) rfl rfl rfl rfl (fun _ => rfl) rfl rfl rfl rfl rfl (fun _ => ?_) (fun _ => rfl) (fun _ => rfl) rfl rfl ?_ ?_; focus repeat' (first | exact trivial | refine And.intro ?_ ?_ | rfl))
      | (refine callNp 1 (fun zt => zN3 zt) rfl rfl rfl rfl (fun _ => rfl) rfl rfl rfl rfl rfl (fun _ => ?_) (fun _ => rfl) (fun _ => rfl) rfl rfl ?_ ?_; focus repeat' (first | exact trivial | refine And.intro ?_ ?_ | rfl))
      | (refine' callVp false zV1 rfl ?zc ?_ ?_; case zc => repeat' (first | exact trivial | refine And.intro ?_ ?_ | rfl))
      | (refine' callVp false zV2 rfl ?zc ?_ ?_; case zc => repeat' (first | exact trivial | refine And.intro ?_ ?_ | rfl))
      | (refine' callVp false zV3 rfl ?zc ?_ ?_; case zc => repeat' (first | exact trivial | refine And.intro ?_ ?_ | rfl))
      | (refine' callVp true zW1 rfl ?zc ?_ ?_; case zc => repeat' (first | exact trivial | refine And.intro ?_ ?_ | rfl))
      | (refine' callVp true zW2 rfl ?zc ?_ ?_; case zc => repeat' (first | exact trivial | refine And.intro ?_ ?_ | rfl))
      | (refine' callVp true zW3 rfl ?zc ?_ ?_; case zc => repeat' (first | exact trivial | refine And.intro ?_ ?_ | rfl)))
    | (refine gate 5 rfl ?_; first
      | refine litR rfl rfl rfl rfl rfl rfl rfl rfl ?_
      | refine litW rfl rfl rfl rfl rfl rfl ?_)
    | (refine gate 2 rfl ?_; first
      | refine apOS rfl rfl rfl rfl rfl rfl rfl rfl rfl rfl rfl ?_ ?_ ?_
      | refine apOL rfl rfl rfl rfl rfl rfl rfl rfl rfl rfl rfl rfl ?_ ?_ ?_
      | refine apNS rfl rfl rfl rfl rfl rfl rfl rfl rfl rfl rfl ?_ ?_ ?_
      | refine apNL rfl rfl rfl rfl rfl rfl rfl rfl rfl rfl rfl rfl ?_ ?_ ?_
      | refine apDO rfl rfl rfl rfl rfl rfl rfl rfl rfl rfl rfl rfl rfl rfl ?_ ?_ ?_
      | refine apDN rfl rfl rfl rfl rfl rfl rfl rfl rfl rfl rfl rfl rfl rfl ?_ ?_ ?_
      | refine op_apMk _ rfl rfl rfl rfl rfl rfl rfl rfl rfl rfl rfl rfl rfl ?_ ?_ ?_ ?_
      | refine apDS rfl rfl rfl rfl rfl rfl rfl rfl rfl rfl rfl ?_ ?_ ?_)
    | (refine gate 6 rfl ?_; refine mkS rfl rfl rfl rfl rfl rfl rfl rfl rfl rfl rfl rfl rfl ?_ ?_ ?_ ?_)
    | (refine gate 6 rfl ?_; refine op_makeD _ rfl rfl rfl rfl rfl rfl rfl rfl rfl rfl rfl rfl rfl ?_ ?_ ?_ ?_)
    | (refine gate 0 rfl ?_; refine op_storeD rfl rfl rfl rfl rfl rfl rfl rfl rfl rfl ?_)
    | (refine gate 3 rfl ?_; refine op_capN rfl rfl rfl rfl rfl ?_)
    | (refine gate 3 rfl ?_; refine op_copy rfl rfl rfl rfl rfl rfl rfl rfl rfl rfl rfl ?_)
    | (refine gate 9 rfl ?_; refine op_bs rfl rfl rfl rfl rfl rfl rfl rfl ?_)
    | (refine gate 9 rfl ?_; refine op_bs rfl rfl rfl rfl rfl rfl rfl rfl ?_)
    | (refine gate 9 rfl ?_; refine op_cvF rfl rfl rfl rfl rfl rfl rfl rfl ?_)
    | (refine gate 8 rfl ?_; refine op_mkFn rfl rfl rfl rfl ?_)
    | (refine gate 7 rfl ?_; refine op_nil rfl rfl rfl rfl rfl rfl (fun zb zhb => ?_))
    | (refine gate 7 rfl ?_; refine op_seq rfl rfl rfl rfl rfl rfl rfl (by first | decide +kernel | kernel_rfl) rfl ?_)
    | (refine inW ?_; first
      | refine W_seq ?_
      | refine W_region ?_
      | refine W_drawN (by decide +kernel) ?_
      | refine W_block ?_
      | refine W_skip ?_
      | refine W_exit ?_
      | refine W_ret ?_
      | refine W_condT rfl rfl ?_
      | refine W_condF rfl rfl ?_
      | (refine W_condB rfl ?_ ?_ <;> intro zq <;> try (exfalso; clear zh1 zh2 zh3 zh4 zh5 zh6 zh7 zh8 zh9 zh10 zh11 zh12 zh13 zh14 zh15 zh16 zh17 zh18 zh19 zh20 zh21 zh22 zh23 zh24 zh25 zh26 zh27 zh28; (simp_all) <;> omega)))
    | (refine inE ?_; first
      | refine end_d rfl rfl rfl rfl ?_ ?_
      | refine end_o rfl rfl rfl rfl ?_ ?_
      | refine end_of rfl rfl rfl ?_ ?_)
    | refine ⟨_, _, _, rfl, rfl, rfl, rfl, ?_⟩
    | refine rsOne ?_
    | refine msPd rfl ?_
    | refine msPn ?_
    | refine msPo rfl ?_
    | refine And.intro ?_ ?_
    | (show List.length _ ≠ 1; simp)
    | (show (_ : Int) ≤ _; first | omega | (simp [IntKind.bits, dflt] <;> omega) | (clear zh1 zh2 zh3 zh4 zh5 zh6 zh7 zh8 zh9 zh10 zh11 zh12 zh13 zh14 zh15 zh16 zh17 zh18 zh19 zh20 zh21 zh22 zh23 zh24 zh25 zh26 zh27 zh28; simp at *; omega))
    | (show (_ : Int) < _; first | omega | (simp [IntKind.bits, dflt] <;> omega) | (clear zh1 zh2 zh3 zh4 zh5 zh6 zh7 zh8 zh9 zh10 zh11 zh12 zh13 zh14 zh15 zh16 zh17 zh18 zh19 zh20 zh21 zh22 zh23 zh24 zh25 zh26 zh27 zh28; simp at *; omega))
    | (show (_ : Nat) ≤ _; first | omega | (unfold maxLen; omega) | (simp [IntKind.bits, dflt] <;> omega) | (clear zh1 zh2 zh3 zh4 zh5 zh6 zh7 zh8 zh9 zh10 zh11 zh12 zh13 zh14 zh15 zh16 zh17 zh18 zh19 zh20 zh21 zh22 zh23 zh24 zh25 zh26 zh27 zh28; simp at *; omega))
    | rfl)
  all_goals (repeat (first | revert zq | revert zv | revert zr | revert zhb | revert zb))
  all_goals (first | ((first | have : True := zh1.1 | skip); (first | have : True := zh2.1 | skip); (first | have : True := zh3.1 | skip); (first | have : True := zh4.1 | skip); (first | have : True := zh5.1 | skip); (first | have : True := zh6.1 | skip); (first | have : True := zh7.1 | skip); (first | have : True := zh8.1 | skip); (first | have : True := zh9.1 | skip); (first | have : True := zh10.1 | skip); (first | have : True := zh11.1 | skip); (first | have : True := zh12.1 | skip); (first | have : True := zh13.1 | skip); (first | have : True := zh14.1 | skip); (first | have : True := zh15.1 | skip); (first | have : True := zh16.1 | skip); (first | have : True := zh17.1 | skip); (first | have : True := zh18.1 | skip); (first | have : True := zh19.1 | skip); (first | have : True := zh20.1 | skip); (first | have : True := zh21.1 | skip); (first | have : True := zh22.1 | skip); (first | have : True := zh23.1 | skip); (first | have : True := zh24.1 | skip); (first | have : True := zh25.1 | skip); (first | have : True := zh26.1 | skip); (first | have : True := zh27.1 | skip); (first | have : True := zh28.1 | skip); exact Mk.mk) | with_reducible exact zh1.1 | with_reducible exact zh2.1 | with_reducible exact zh3.1 | with_reducible exact zh4.1 | with_reducible exact zh5.1 | with_reducible exact zh6.1 | with_reducible exact zh7.1 | with_reducible exact zh8.1 | with_reducible exact zh9.1 | with_reducible exact zh10.1 | with_reducible exact zh11.1 | with_reducible exact zh12.1 | with_reducible exact zh13.1 | with_reducible exact zh14.1 | with_reducible exact zh15.1 | with_reducible exact zh16.1 | with_reducible exact zh17.1 | with_reducible exact zh18.1 | with_reducible exact zh19.1 | with_reducible exact zh20.1 | with_reducible exact zh21.1 | with_reducible exact zh22.1 | with_reducible exact zh23.1 | with_reducible exact zh24.1 | with_reducible exact zh25.1 | with_reducible exact zh26.1 | with_reducible exact zh27.1 | with_reducible exact zh28.1)
  ) : G := zP ⟨h1⟩ ⟨h2⟩ ⟨h3⟩ ⟨h4⟩ ⟨h5⟩ ⟨h6⟩ ⟨h7⟩ ⟨h8⟩ ⟨h9⟩ ⟨h10⟩ ⟨h11⟩ ⟨h12⟩ ⟨h13⟩ ⟨h14⟩ ⟨h15⟩ ⟨h16⟩ ⟨h17⟩ ⟨h18⟩ ⟨h19⟩ ⟨h20⟩ ⟨h21⟩ ⟨h22⟩ ⟨h23⟩ ⟨h24⟩ ⟨h25⟩ ⟨h26⟩ ⟨h27⟩ ⟨h28⟩
end Go.LX

/- The walk's block, with other alternatives. -/
set_option linter.unusedVariables false
set_option linter.unusedSimpArgs false
namespace Go.LX

/-- The walk, as far as it goes by itself; what is left over is asked for. -/
theorem stpT {G L1 L2 L3 L4 L5 L6 L7 L8 L9 L10 L11 L12 L13 L14 L15 L16 : Prop} (h1 : L1) (h2 : L2) (h3 : L3) (h4 : L4) (h5 : L5) (h6 : L6) (h7 : L7) (h8 : L8) (h9 : L9) (h10 : L10) (h11 : L11) (h12 : L12) (h13 : L13) (h14 : L14) (h15 : L15) (h16 : L16) (zP : Hid L1 → Hid L2 → Hid L3 → Hid L4 → Hid L5 → Hid L6 → Hid L7 → Hid L8 → Hid L9 → Hid L10 → Hid L11 → Hid L12 → Hid L13 → Hid L14 → Hid L15 → Hid L16 → G := by
  intro zh1 zh2 zh3 zh4 zh5 zh6 zh7 zh8 zh9 zh10 zh11 zh12 zh13 zh14 zh15 zh16
  refine Mk.go ?_ ?_
  repeat' (first
    | exact trivial
    | (refine inWO ?_; first
      | refine WO_run1 (nw := true) rfl rfl ?_ ?_
      | refine WO_runE (nw := true) rfl rfl ?_ ?_
      | refine WO_runG (nw := true) rfl rfl rfl rfl rfl ?_ ?_
      | refine WO_runG1 (nw := true) rfl rfl rfl rfl rfl ?_ ?_
      | refine WO_runU (nw := true) rfl rfl rfl rfl rfl ?_ ?_
      | refine WO_run1 (nw := true) rfl rfl ?_ ?_
      | (refine WO_cons rfl ?_; refine op_slice3 rfl rfl rfl rfl rfl rfl rfl rfl ?_ ?_ ?_)
      | refine WO_cons rfl ?_
      | refine WO_gT rfl rfl rfl rfl rfl ?_
      | (refine WO_split rfl rfl rfl rfl ?_ ?_ <;> intro zq <;> try (exfalso; clear zh1 zh2 zh3 zh4 zh5 zh6 zh7 zh8 zh9 zh10 zh11 zh12 zh13 zh14 zh15 zh16; (simp_all) <;> omega))
      | refine WO_nil ?_)
    | (refine inRW ?_; first
      | refine RW_runE (nw := true) rfl rfl (fun _ _ => rfl) rfl ?_ ?_
      | refine RW_runG (nw := true) rfl rfl rfl rfl rfl (fun _ _ => rfl) rfl ?_ ?_
      | refine RW_runG1 (nw := true) rfl rfl rfl rfl rfl (fun _ _ => rfl) rfl ?_ ?_
      | refine RW_runU (nw := true) rfl rfl rfl rfl rfl (fun _ _ => rfl) rfl ?_ ?_
      | refine RW_run1 (nw := true) rfl rfl (fun _ _ => rfl) rfl ?_ ?_
      | refine RW_op (us := ?_) (ub := ?_) (fp := ?_) rfl (fun zs0 zb0 => ?_) ?_ ?_
      | refine RW_opT (us := ?_) (ub := ?_) (fp := ?_) rfl rfl rfl rfl (fun zs0 zb0 => ?_) ?_ ?_
      | (refine RW_split rfl rfl rfl ?_ ?_ <;> intro zq <;> try (exfalso; clear zh1 zh2 zh3 zh4 zh5 zh6 zh7 zh8 zh9 zh10 zh11 zh12 zh13 zh14 zh15 zh16; (simp_all) <;> omega))
      | refine RW_nil ?_ (by first | decide +kernel | kernel_rfl))
    | (refine gate 1 rfl ?_; first
      | (refine' callDp false zD1 rfl ?zc ?_ ?_; case zc => repeat' (first | exact trivial | refine And.intro ?_ ?_ | rfl))
      | (refine' callDp false zD2 rfl ?zc ?_ ?_; case zc => repeat' (first | exact trivial | refine And.intro ?_ ?_ | rfl))
      | (refine' callDp false zD3 rfl ?zc ?_ ?_; case zc => repeat' (first | exact trivial | refine And.intro ?_ ?_ | rfl))
      | (refine' callDp false zD4 rfl ?zc ?_ ?_; case zc => repeat' (first | exact trivial | refine And.intro ?_ ?_ | rfl))
      | (refine' callDp false zD5 rfl ?zc ?_ ?_; case zc => repeat' (first | exact trivial | refine And.intro ?_ ?_ | rfl))
      | (refine' callDp false zD6 rfl ?zc ?_ ?_; case zc => repeat' (first | exact trivial | refine And.intro ?_ ?_ | rfl))
      | (refine' callDp false zD7 rfl ?zc ?_ ?_; case zc => repeat' (first | exact trivial | refine And.intro ?_ ?_ | rfl))
      | (refine' callDp false zD8 rfl ?zc ?_ ?_; case zc => repeat' (first | exact trivial | refine And.intro ?_ ?_ | rfl))
      | (refine' callDp false zD9 rfl ?zc ?_ ?_; case zc => repeat' (first | exact trivial | refine And.intro ?_ ?_ | rfl))
      | (refine' callDp false zD10 rfl ?zc ?_ ?_; case zc => repeat' (first | exact trivial | refine And.intro ?_ ?_ | rfl))
      | (refine' callDp false zD11 rfl ?zc ?_ ?_; case zc => repeat' (first | exact trivial | refine And.intro ?_ ?_ | rfl))
      | (refine' callDp false zD12 rfl ?zc ?_ ?_; case zc => repeat' (first | exact trivial | refine And.intro ?_ ?_ | rfl))
      | (refine' callDp true zE1 rfl ?zc ?_ ?_; case zc => repeat' (first | exact trivial | refine And.intro ?_ ?_ | rfl))
      | (refine' callDp true zE2 rfl ?zc ?_ ?_; case zc => repeat' (first | exact trivial | refine And.intro ?_ ?_ | rfl))
      | (refine' callDp true zE3 rfl ?zc ?_ ?_; case zc => repeat' (first | exact trivial | refine And.intro ?_ ?_ | rfl))
      | (refine' callDp true zE4 rfl ?zc ?_ ?_; case zc => repeat' (first | exact trivial | refine And.intro ?_ ?_ | rfl))
      | (refine' callDp true zE5 rfl ?zc ?_ ?_; case zc => repeat' (first | exact trivial | refine And.intro ?_ ?_ | rfl))
      | (refine' callDp true zE6 rfl ?zc ?_ ?_; case zc => repeat' (first | exact trivial | refine And.intro ?_ ?_ | rfl))
      | (refine' callDp true zE7 rfl ?zc ?_ ?_; case zc => repeat' (first | exact trivial | refine And.intro ?_ ?_ | rfl))
      | (refine' callDp true zE8 rfl ?zc ?_ ?_; case zc => repeat' (first | exact trivial | refine And.intro ?_ ?_ | rfl))
      | (refine' callDp true zE9 rfl ?zc ?_ ?_; case zc => repeat' (first | exact trivial | refine And.intro ?_ ?_ | rfl))
      | (refine' callBp zB1 rfl ?zc ?_ ?_; case zc => repeat' (first | exact trivial | refine And.intro ?_ ?_ | rfl))
      | (refine' callBp zB2 rfl ?zc ?_ ?_; case zc => repeat' (first | exact trivial | refine And.intro ?_ ?_ | rfl))
      | (refine' callBp zB3 rfl ?zc ?_ ?_; case zc => repeat' (first | exact trivial | refine And.intro ?_ ?_ | rfl))
      | (refine' callBp zB4 rfl ?zc ?_ ?_; case zc => repeat' (first | exact trivial | refine And.intro ?_ ?_ | rfl))
      | (refine' callBp zB5 rfl ?zc ?_ ?_; case zc => repeat' (first | exact trivial | refine And.intro ?_ ?_ | rfl))
      | (refine' callBp zB6 rfl ?zc ?_ ?_; case zc => repeat' (first | exact trivial | refine And.intro ?_ ?_ | rfl))
      | (refine' callBp zB7 rfl ?zc ?_ ?_; case zc => repeat' (first | exact trivial | refine And.intro ?_ ?_ | rfl))
      | (refine' callBp zB8 rfl ?zc ?_ ?_; case zc => repeat' (first | exact trivial | refine And.intro ?_ ?_ | rfl))
      | (refine' callBp zB9 rfl ?zc ?_ ?_; case zc => repeat' (first | exact trivial | refine And.intro ?_ ?_ | rfl))
      | (refine' callBp zB10 rfl ?zc ?_ ?_; case zc => repeat' (first | exact trivial | refine And.intro ?_ ?_ | rfl))
      | (refine' callBp zB11 rfl ?zc ?_ ?_; case zc => repeat' (first | exact trivial | refine And.intro ?_ ?_ | rfl))
      | (refine' callBp zB12 rfl ?zc ?_ ?_; case zc => repeat' (first | exact trivial | refine And.intro ?_ ?_ | rfl))
      | (refine' callBRp zQ1 rfl ?zc ?_ (fun zr zv => ?_); case zc => repeat' (first | exact trivial | refine And.intro ?_ ?_ | rfl | (intro zr; rfl)))
      | (refine' callBRp zQ2 rfl ?zc ?_ (fun zr zv => ?_); case zc => repeat' (first | exact trivial | refine And.intro ?_ ?_ | rfl | (intro zr; rfl)))
      | (refine' callBRp zQ3 rfl ?zc ?_ (fun zr zv => ?_); case zc => repeat' (first | exact trivial | refine And.intro ?_ ?_ | rfl | (intro zr; rfl)))
      | (refine' callBRp zQ4 rfl ?zc ?_ (fun zr zv => ?_); case zc => repeat' (first | exact trivial | refine And.intro ?_ ?_ | rfl | (intro zr; rfl)))
      | (refine' callBRp zQ5 rfl ?zc ?_ (fun zr zv => ?_); case zc => repeat' (first | exact trivial | refine And.intro ?_ ?_ | rfl | (intro zr; rfl)))
      | (refine' callBRp zQ6 rfl ?zc ?_ (fun zr zv => ?_); case zc => repeat' (first | exact trivial | refine And.intro ?_ ?_ | rfl | (intro zr; rfl)))
      | (refine' callBRp zQ7 rfl ?zc ?_ (fun zr zv => ?_); case zc => repeat' (first | exact trivial | refine And.intro ?_ ?_ | rfl | (intro zr; rfl)))
      | (refine' callBRp zQ8 rfl ?zc ?_ (fun zr zv => ?_); case zc => repeat' (first | exact trivial | refine And.intro ?_ ?_ | rfl | (intro zr; rfl)))
      | (refine' callBRp zQ9 rfl ?zc ?_ (fun zr zv => ?_); case zc => repeat' (first | exact trivial | refine And.intro ?_ ?_ | rfl | (intro zr; rfl)))
      | (refine' callRp false zR1 rfl ?zc ?_ (fun zr zv => ?_); case zc => repeat' (first | exact trivial | refine And.intro ?_ ?_ | rfl | (intro zr; rfl)))
      | (refine' callRp false zR2 rfl ?zc ?_ (fun zr zv => ?_); case zc => repeat' (first | exact trivial | refine And.intro ?_ ?_ | rfl | (intro zr; rfl)))
      | (refine' callRp false zR3 rfl ?zc ?_ (fun zr zv => ?_); case zc => repeat' (first | exact trivial | refine And.intro ?_ ?_ | rfl | (intro zr; rfl)))
      | (refine' callRp false zR4 rfl ?zc ?_ (fun zr zv => ?_); case zc => repeat' (first | exact trivial | refine And.intro ?_ ?_ | rfl | (intro zr; rfl)))
      | (refine' callRp false zR5 rfl ?zc ?_ (fun zr zv => ?_); case zc => repeat' (first | exact trivial | refine And.intro ?_ ?_ | rfl | (intro zr; rfl)))
      | (refine' callRp false zR6 rfl ?zc ?_ (fun zr zv => ?_); case zc => repeat' (first | exact trivial | refine And.intro ?_ ?_ | rfl | (intro zr; rfl)))
      | (refine' callRp true zS1 rfl ?zc ?_ (fun zr zv => ?_); case zc => repeat' (first | exact trivial | refine And.intro ?_ ?_ | rfl | (intro zr; rfl)))
      | (refine' callRp true zS2 rfl ?zc ?_ (fun zr zv => ?_); case zc => repeat' (first | exact trivial | refine And.intro ?_ ?_ | rfl | (intro zr; rfl)))
      | (refine' callRp true zS3 rfl ?zc ?_ (fun zr zv => ?_); case zc => repeat' (first | exact trivial | refine And.intro ?_ ?_ | rfl | (intro zr; rfl)))
      | (refine' callRp true zS4 rfl ?zc ?_ (fun zr zv => ?_); case zc => repeat' (first | exact trivial | refine And.intro ?_ ?_ | rfl | (intro zr; rfl)))
      | (refine' callRp true zS5 rfl ?zc ?_ (fun zr zv => ?_); case zc => repeat' (first | exact trivial | refine And.intro ?_ ?_ | rfl | (intro zr; rfl)))
      | (refine' callRp true zS6 rfl ?zc ?_ (fun zr zv => ?_); case zc => repeat' (first | exact trivial | refine And.intro ?_ ?_ | rfl | (intro zr; rfl)))
      | (refine' callXp zX1 rfl ?zc ?_ ?_; case zc => repeat' (first | exact trivial | refine And.intro ?_ ?_ | rfl))
      | (refine' callXp zX2 rfl ?zc ?_ ?_; case zc => repeat' (first | exact trivial | refine And.intro ?_ ?_ | rfl))
      | (refine' callXp zX3 rfl ?zc ?_ ?_; case zc => repeat' (first | exact trivial | refine And.intro ?_ ?_ | rfl))
      | (refine' callOp zO1 rfl ?zc ?_ ?_; case zc => repeat' (first | exact trivial | refine And.intro ?_ ?_ | rfl))
      | (refine' callOp zO2 rfl ?zc ?_ ?_; case zc => repeat' (first | exact trivial | refine And.intro ?_ ?_ | rfl))
      | (refine' callOp zO3 rfl ?zc ?_ ?_; case zc => repeat' (first | exact trivial | refine And.intro ?_ ?_ | rfl))
      | (refine' callAp zA1 rfl ?zc ?_ ?_; case zc => repeat' (first | exact trivial | refine And.intro ?_ ?_ | rfl))
      | (refine' callAp zA2 rfl ?zc ?_ ?_; case zc => repeat' (first | exact trivial | refine And.intro ?_ ?_ | rfl))
      | (refine' callAp zA3 rfl ?zc ?_ ?_; case zc => repeat' (first | exact trivial | refine And.intro ?_ ?_ | rfl))
      | (refine' callMp zM1 rfl ?zc ?_ ?_; case zc => repeat' (first | exact trivial | refine And.intro ?_ ?_ | rfl))
      | (refine' callMp zM2 rfl ?zc ?_ ?_; case zc => repeat' (first | exact trivial | refine And.intro ?_ ?_ | rfl))
      | (refine' callMp zM3 rfl ?zc ?_ ?_; case zc => repeat' (first | exact trivial | refine And.intro ?_ ?_ | rfl))
      | (refine callNp 0 (fun zt => zN1 zt) rfl rfl rfl rfl (fun _ => rfl) rfl rfl rfl rfl rfl (fun _ => ⟨rfl, trivial⟩) (fun _ => rfl) (fun _ => rfl) rfl rfl ?_ ?_)
      | (refine callNp 0 (fun zt => zN1 zt) rfl rfl rfl rfl (fun _ => rfl) rfl rfl rfl rfl rfl (fun _ => ?_) (fun _ => rfl) (fun _ => rfl) rfl rfl ?_ ?_; focus repeat' (first | exact trivial | refine And.intro ?_ ?_ | rfl))
      | (refine callNp 1 (fun zt => zN1 zt) rfl rfl rfl rfl (fun _ => rfl) rfl rfl rfl rfl rfl (fun _ => ?_) (fun _ => rfl) (fun _ => rfl) rfl rfl ?_ ?_; focus repeat' (first | exact trivial | refine And.intro ?_ ?_ | rfl))
      | (refine callNp 0 (fun zt => zN2 zt) rfl rfl rfl rfl (fun _ => rfl) rfl rfl rfl rfl rfl (fun _ => ⟨rfl, trivial⟩) (fun _ => rfl) (fun _ => rfl) rfl rfl ?_ ?_)
      | (refine callNp 0 (fun zt => zN2 zt) rfl rfl rfl rfl (fun _ => rfl) rfl rfl rfl rfl rfl (fun _ => ?_) (fun _ => rfl) (fun _ => rfl) rfl rfl ?_ ?_; focus repeat' (first | exact trivial | refine And.intro ?_ ?_ | rfl))
      | (refine callNp 1 (fun zt => zN2 zt) rfl rfl rfl rfl (fun _ => rfl) rfl rfl rfl rfl rfl (fun _ => ?_) (fun _ => rfl) (fun _ => rfl) rfl rfl ?_ ?_; focus repeat' (first | exact trivial | refine And.intro ?_ ?_ | rfl))
      | (refine callNp 0 (fun zt => zN3 zt) rfl rfl rfl rfl (fun _ => rfl) rfl rfl rfl rfl rfl (fun _ => ⟨rfl, trivial⟩) (fun _ => rfl) (fun _ => rfl) rfl rfl ?_ ?_)
      | (refine callNp 0 (fun zt => zN3 zt) rfl rfl rfl rfl (fun _ => rfl) rfl rfl rfl rfl rfl (fun _ => ?_) (fun _ => rfl) (fun _ => rfl) rfl rfl ?_ ?_; focus repeat' (first | exact trivial | refine And.intro ?_ ?_ | rfl))
      | (refine callNp 1 (fun zt => zN3 zt) rfl rfl rfl rfl (fun _ => rfl) rfl rfl rfl rfl rfl (fun _ => ?_) (fun _ => rfl) (fun _ => rfl) rfl rfl ?_ ?_; focus repeat' (first | exact trivial | refine And.intro ?_ ?_ | rfl))
      | (refine' callVp false zV1 rfl ?zc ?_ ?_; case zc => repeat' (first | exact trivial | refine And.intro ?_ ?_ | rfl))
      | (refine' callVp false zV2 rfl ?zc ?_ ?_; case zc => repeat' (first | exact trivial | refine And.intro ?_ ?_ | rfl))
      | (refine' callVp false zV3 rfl ?zc ?_ ?_; case zc => repeat' (first | exact trivial | refine And.intro ?_ ?_ | rfl))
      | (refine' callVp true zW1 rfl ?zc ?_ ?_; case zc => repeat' (first | exact trivial | refine And.intro ?_ ?_ | rfl))
      | (refine' callVp true zW2 rfl ?zc ?_ ?_; case zc => repeat' (first | exact trivial | refine And.intro ?_ ?_ | rfl))
      | (refine' callVp true zW3 rfl ?zc ?_ ?_; case zc => repeat' (first | exact trivial | refine And.intro ?_ ?_ | rfl)))
    | (refine gate 5 rfl ?_; first
      | refine litR rfl rfl rfl rfl rfl rfl rfl rfl ?_
      | refine litW rfl rfl rfl rfl rfl rfl ?_)
    | (refine gate 2 rfl ?_; first
      | refine apOS rfl rfl rfl rfl rfl rfl rfl rfl rfl rfl rfl ?_ ?_ ?_
      | refine apOL rfl rfl rfl rfl rfl rfl rfl rfl rfl rfl rfl rfl ?_ ?_ ?_
      | refine apNS rfl rfl rfl rfl rfl rfl rfl rfl rfl rfl rfl ?_ ?_ ?_
      | refine apNL rfl rfl rfl rfl rfl rfl rfl rfl rfl rfl rfl rfl ?_ ?_ ?_
      | refine apDO rfl rfl rfl rfl rfl rfl rfl rfl rfl rfl rfl rfl rfl rfl ?_ ?_ ?_
      | refine apDN rfl rfl rfl rfl rfl rfl rfl rfl rfl rfl rfl rfl rfl rfl ?_ ?_ ?_
      | refine op_apMk _ rfl rfl rfl rfl rfl rfl rfl rfl rfl rfl rfl rfl rfl ?_ ?_ ?_ ?_
      | refine apDS rfl rfl rfl rfl rfl rfl rfl rfl rfl rfl rfl ?_ ?_ ?_)
    | (refine gate 6 rfl ?_; refine mkS rfl rfl rfl rfl rfl rfl rfl rfl rfl rfl rfl rfl rfl ?_ ?_ ?_ ?_)
    | (refine gate 6 rfl ?_; refine op_makeD _ rfl rfl rfl rfl rfl rfl rfl rfl rfl rfl rfl rfl rfl ?_ ?_ ?_ ?_)
    | (refine gate 0 rfl ?_; refine op_storeD rfl rfl rfl rfl rfl rfl rfl rfl rfl rfl ?_)
    | (refine gate 3 rfl ?_; refine op_capN rfl rfl rfl rfl rfl ?_)
    | (refine gate 3 rfl ?_; refine op_copy rfl rfl rfl rfl rfl rfl rfl rfl rfl rfl rfl ?_)
    | (refine gate 9 rfl ?_; refine op_bs rfl rfl rfl rfl rfl rfl rfl rfl ?_)
    | (refine gate 9 rfl ?_; refine op_bs rfl rfl rfl rfl rfl rfl rfl rfl ?_)
    | (refine gate 9 rfl ?_; refine op_cvF rfl rfl rfl rfl rfl rfl rfl rfl ?_)
    | (refine gate 8 rfl ?_; refine op_mkFn rfl rfl rfl rfl ?_)
    | (refine gate 7 rfl ?_; refine op_nil rfl rfl rfl rfl rfl rfl (fun zb zhb => ?_))
    | (refine gate 7 rfl ?_; refine op_seq rfl rfl rfl rfl rfl rfl rfl (by first | decide +kernel | kernel_rfl) rfl ?_)
    | (refine inW ?_; first
      | refine W_seq ?_
      | refine W_region ?_
      | refine W_drawN (by decide +kernel) ?_
      | refine W_block ?_
      | refine W_skip ?_
      | refine W_exit ?_
      | refine W_ret ?_
      | refine W_condT rfl rfl ?_
      | refine W_condF rfl rfl ?_
      | (refine W_condB rfl ?_ ?_ <;> intro zq <;> try (exfalso; clear zh1 zh2 zh3 zh4 zh5 zh6 zh7 zh8 zh9 zh10 zh11 zh12 zh13 zh14 zh15 zh16; (simp_all) <;> omega)))
    | (refine inE ?_; first
      | refine end_d rfl rfl rfl rfl ?_ ?_
      | refine end_o rfl rfl rfl rfl ?_ ?_
      | refine end_of rfl rfl rfl ?_ ?_)
    | refine ⟨_, _, _, rfl, rfl, rfl, rfl, ?_⟩
    | refine rsOne ?_
    | refine msPd rfl ?_
    | refine msPn ?_
    | refine msPo rfl ?_
    | refine And.intro ?_ ?_
    | (show List.length _ ≠ 1; simp)
    | (show (_ : Int) ≤ _; first | omega | (simp [IntKind.bits, dflt] <;> omega) | (clear zh1 zh2 zh3 zh4 zh5 zh6 zh7 zh8 zh9 zh10 zh11 zh12 zh13 zh14 zh15 zh16; simp at *; omega))
    | (show (_ : Int) < _; first | omega | (simp [IntKind.bits, dflt] <;> omega) | (clear zh1 zh2 zh3 zh4 zh5 zh6 zh7 zh8 zh9 zh10 zh11 zh12 zh13 zh14 zh15 zh16; simp at *; omega))
    | (show (_ : Nat) ≤ _; first | omega | (unfold maxLen; omega) | (simp [IntKind.bits, dflt] <;> omega) | (clear zh1 zh2 zh3 zh4 zh5 zh6 zh7 zh8 zh9 zh10 zh11 zh12 zh13 zh14 zh15 zh16; simp at *; omega))
    | rfl)
  all_goals (repeat (first | revert zq | revert zv | revert zr | revert zhb | revert zb))
  all_goals (first | ((first | have : True := zh1.1 | skip); (first | have : True := zh2.1 | skip); (first | have : True := zh3.1 | skip); (first | have : True := zh4.1 | skip); (first | have : True := zh5.1 | skip); (first | have : True := zh6.1 | skip); (first | have : True := zh7.1 | skip); (first | have : True := zh8.1 | skip); (first | have : True := zh9.1 | skip); (first | have : True := zh10.1 | skip); (first | have : True := zh11.1 | skip); (first | have : True := zh12.1 | skip); (first | have : True := zh13.1 | skip); (first | have : True := zh14.1 | skip); (first | have : True := zh15.1 | skip); (first | have : True := zh16.1 | skip); exact Mk.mk) | with_reducible exact zh1.1 | with_reducible exact zh2.1 | with_reducible exact zh3.1 | with_reducible exact zh4.1 | with_reducible exact zh5.1 | with_reducible exact zh6.1 | with_reducible exact zh7.1 | with_reducible exact zh8.1 | with_reducible exact zh9.1 | with_reducible exact zh10.1 | with_reducible exact zh11.1 | with_reducible exact zh12.1 | with_reducible exact zh13.1 | with_reducible exact zh14.1 | with_reducible exact zh15.1 | with_reducible exact zh16.1)
  ) : G := zP ⟨h1⟩ ⟨h2⟩ ⟨h3⟩ ⟨h4⟩ ⟨h5⟩ ⟨h6⟩ ⟨h7⟩ ⟨h8⟩ ⟨h9⟩ ⟨h10⟩ ⟨h11⟩ ⟨h12⟩ ⟨h13⟩ ⟨h14⟩ ⟨h15⟩ ⟨h16⟩
end Go.LX

/- The walk's block, with other alternatives. -/
set_option linter.unusedVariables false
set_option linter.unusedSimpArgs false
namespace Go.LX

/-- The walk, as far as it goes by itself; what is left over is asked for. -/
theorem stpL {G L1 L2 L3 L4 L5 L6 L7 L8 L9 L10 L11 L12 L13 L14 L15 L16 : Prop} (h1 : L1) (h2 : L2) (h3 : L3) (h4 : L4) (h5 : L5) (h6 : L6) (h7 : L7) (h8 : L8) (h9 : L9) (h10 : L10) (h11 : L11) (h12 : L12) (h13 : L13) (h14 : L14) (h15 : L15) (h16 : L16) (zP : Hid L1 → Hid L2 → Hid L3 → Hid L4 → Hid L5 → Hid L6 → Hid L7 → Hid L8 → Hid L9 → Hid L10 → Hid L11 → Hid L12 → Hid L13 → Hid L14 → Hid L15 → Hid L16 → G := by
  intro zh1 zh2 zh3 zh4 zh5 zh6 zh7 zh8 zh9 zh10 zh11 zh12 zh13 zh14 zh15 zh16
  refine Mk.go ?_ ?_
  repeat' (first
    | exact trivial
    | (refine inWO ?_; first
      | refine WO_runE (nw := true) rfl rfl ?_ ?_
      | refine WO_runG (nw := true) rfl rfl rfl rfl rfl ?_ ?_
      | refine WO_runG1 (nw := true) rfl rfl rfl rfl rfl ?_ ?_
      | refine WO_runU (nw := true) rfl rfl rfl rfl rfl ?_ ?_
      | refine WO_run1 (nw := true) rfl rfl ?_ ?_
      | refine WO_cons rfl ?_
      | refine WO_gT rfl rfl rfl rfl rfl ?_
      | (refine WO_split rfl rfl rfl rfl ?_ ?_ <;> intro zq <;> try (exfalso; clear zh1 zh2 zh3 zh4 zh5 zh6 zh7 zh8 zh9 zh10 zh11 zh12 zh13 zh14 zh15 zh16; (simp_all) <;> omega))
      | refine WO_nil ?_)
    | (refine inRW ?_; first
      | refine RW_runE (nw := true) rfl rfl (fun _ _ => rfl) rfl ?_ ?_
      | refine RW_runG (nw := true) rfl rfl rfl rfl rfl (fun _ _ => rfl) rfl ?_ ?_
      | refine RW_runG1 (nw := true) rfl rfl rfl rfl rfl (fun _ _ => rfl) rfl ?_ ?_
      | refine RW_runU (nw := true) rfl rfl rfl rfl rfl (fun _ _ => rfl) rfl ?_ ?_
      | refine RW_run1 (nw := true) rfl rfl (fun _ _ => rfl) rfl ?_ ?_
      | refine RW_op (us := ?_) (ub := ?_) (fp := ?_) rfl (fun zs0 zb0 => ?_) ?_ ?_
      | refine RW_opT (us := ?_) (ub := ?_) (fp := ?_) rfl rfl rfl rfl (fun zs0 zb0 => ?_) ?_ ?_
      | (refine RW_split rfl rfl rfl ?_ ?_ <;> intro zq <;> try (exfalso; clear zh1 zh2 zh3 zh4 zh5 zh6 zh7 zh8 zh9 zh10 zh11 zh12 zh13 zh14 zh15 zh16; (simp_all) <;> omega))
      | refine RW_nil ?_ (by first | decide +kernel | kernel_rfl))
    | (refine gate 1 rfl ?_; first
      | (refine' callDp false zD1 rfl ?zc ?_ ?_; case zc => repeat' (first | exact trivial | refine And.intro ?_ ?_ | rfl))
      | (refine' callDp false zD2 rfl ?zc ?_ ?_; case zc => repeat' (first | exact trivial | refine And.intro ?_ ?_ | rfl))
      | (refine' callDp false zD3 rfl ?zc ?_ ?_; case zc => repeat' (first | exact trivial | refine And.intro ?_ ?_ | rfl))
      | (refine' callDp false zD4 rfl ?zc ?_ ?_; case zc => repeat' (first | exact trivial | refine And.intro ?_ ?_ | rfl))
      | (refine' callDp false zD5 rfl ?zc ?_ ?_; case zc => repeat' (first | exact trivial | refine And.intro ?_ ?_ | rfl))
      | (refine' callDp false zD6 rfl ?zc ?_ ?_; case zc => repeat' (first | exact trivial | refine And.intro ?_ ?_ | rfl))
      | (refine' callDp false zD7 rfl ?zc ?_ ?_; case zc => repeat' (first | exact trivial | refine And.intro ?_ ?_ | rfl))
      | (refine' callDp false zD8 rfl ?zc ?_ ?_; case zc => repeat' (first | exact trivial | refine And.intro ?_ ?_ | rfl))
      | (refine' callDp false zD9 rfl ?zc ?_ ?_; case zc => repeat' (first | exact trivial | refine And.intro ?_ ?_ | rfl))
      | (refine' callDp false zD10 rfl ?zc ?_ ?_; case zc => repeat' (first | exact trivial | refine And.intro ?_ ?_ | rfl))
      | (refine' callDp false zD11 rfl ?zc ?_ ?_; case zc => repeat' (first | exact trivial | refine And.intro ?_ ?_ | rfl))
      | (refine' callDp false zD12 rfl ?zc ?_ ?_; case zc => repeat' (first | exact trivial | refine And.intro ?_ ?_ | rfl))
      | (refine' callDp true zE1 rfl ?zc ?_ ?_; case zc => repeat' (first | exact trivial | refine And.intro ?_ ?_ | rfl))
      | (refine' callDp true zE2 rfl ?zc ?_ ?_; case zc => repeat' (first | exact trivial | refine And.intro ?_ ?_ | rfl))
      | (refine' callDp true zE3 rfl ?zc ?_ ?_; case zc => repeat' (first | exact trivial | refine And.intro ?_ ?_ | rfl))
      | (refine' callDp true zE4 rfl ?zc ?_ ?_; case zc => repeat' (first | exact trivial | refine And.intro ?_ ?_ | rfl))
      | (refine' callDp true zE5 rfl ?zc ?_ ?_; case zc => repeat' (first | exact trivial | refine And.intro ?_ ?_ | rfl))
      | (refine' callDp true zE6 rfl ?zc ?_ ?_; case zc => repeat' (first | exact trivial | refine And.intro ?_ ?_ | rfl))
      | (refine' callDp true zE7 rfl ?zc ?_ ?_; case zc => repeat' (first | exact trivial | refine And.intro ?_ ?_ | rfl))
      | (refine' callDp true zE8 rfl ?zc ?_ ?_; case zc => repeat' (first | exact trivial | refine And.intro ?_ ?_ | rfl))
      | (refine' callDp true zE9 rfl ?zc ?_ ?_; case zc => repeat' (first | exact trivial | refine And.intro ?_ ?_ | rfl))
      | (refine' callBp zB1 rfl ?zc ?_ ?_; case zc => repeat' (first | exact trivial | refine And.intro ?_ ?_ | rfl))
      | (refine' callBp zB2 rfl ?zc ?_ ?_; case zc => repeat' (first | exact trivial | refine And.intro ?_ ?_ | rfl))
      | (refine' callBp zB3 rfl ?zc ?_ ?_; case zc => repeat' (first | exact trivial | refine And.intro ?_ ?_ | rfl))
      | (refine' callBp zB4 rfl ?zc ?_ ?_; case zc => repeat' (first | exact trivial | refine And.intro ?_ ?_ | rfl))
      | (refine' callBp zB5 rfl ?zc ?_ ?_; case zc => repeat' (first | exact trivial | refine And.intro ?_ ?_ | rfl))
      | (refine' callBp zB6 rfl ?zc ?_ ?_; case zc => repeat' (first | exact trivial | refine And.intro ?_ ?_ | rfl))
      | (refine' callBp zB7 rfl ?zc ?_ ?_; case zc => repeat' (first | exact trivial | refine And.intro ?_ ?_ | rfl))
      | (refine' callBp zB8 rfl ?zc ?_ ?_; case zc => repeat' (first | exact trivial | refine And.intro ?_ ?_ | rfl))
      | (refine' callBp zB9 rfl ?zc ?_ ?_; case zc => repeat' (first | exact trivial | refine And.intro ?_ ?_ | rfl))
      | (refine' callBp zB10 rfl ?zc ?_ ?_; case zc => repeat' (first | exact trivial | refine And.intro ?_ ?_ | rfl))
      | (refine' callBp zB11 rfl ?zc ?_ ?_; case zc => repeat' (first | exact trivial | refine And.intro ?_ ?_ | rfl))
      | (refine' callBp zB12 rfl ?zc ?_ ?_; case zc => repeat' (first | exact trivial | refine And.intro ?_ ?_ | rfl))
      | (refine' callBRp zQ1 rfl ?zc ?_ (fun zr zv => ?_); case zc => repeat' (first | exact trivial | refine And.intro ?_ ?_ | rfl | (intro zr; rfl)))
      | (refine' callBRp zQ2 rfl ?zc ?_ (fun zr zv => ?_); case zc => repeat' (first | exact trivial | refine And.intro ?_ ?_ | rfl | (intro zr; rfl)))
      | (refine' callBRp zQ3 rfl ?zc ?_ (fun zr zv => ?_); case zc => repeat' (first | exact trivial | refine And.intro ?_ ?_ | rfl | (intro zr; rfl)))
      | (refine' callBRp zQ4 rfl ?zc ?_ (fun zr zv => ?_); case zc => repeat' (first | exact trivial | refine And.intro ?_ ?_ | rfl | (intro zr; rfl)))
      | (refine' callBRp zQ5 rfl ?zc ?_ (fun zr zv => ?_); case zc => repeat' (first | exact trivial | refine And.intro ?_ ?_ | rfl | (intro zr; rfl)))
      | (refine' callBRp zQ6 rfl ?zc ?_ (fun zr zv => ?_); case zc => repeat' (first | exact trivial | refine And.intro ?_ ?_ | rfl | (intro zr; rfl)))
      | (refine' callBRp zQ7 rfl ?zc ?_ (fun zr zv => ?_); case zc => repeat' (first | exact trivial | refine And.intro ?_ ?_ | rfl | (intro zr; rfl)))
      | (refine' callBRp zQ8 rfl ?zc ?_ (fun zr zv => ?_); case zc => repeat' (first | exact trivial | refine And.intro ?_ ?_ | rfl | (intro zr; rfl)))
      | (refine' callBRp zQ9 rfl ?zc ?_ (fun zr zv => ?_); case zc => repeat' (first | exact trivial | refine And.intro ?_ ?_ | rfl | (intro zr; rfl)))
      | (refine' callRp false zR1 rfl ?zc ?_ (fun zr zv => ?_); case zc => repeat' (first | exact trivial | refine And.intro ?_ ?_ | rfl | (intro zr; rfl)))
      | (refine' callRp false zR2 rfl ?zc ?_ (fun zr zv => ?_); case zc => repeat' (first | exact trivial | refine And.intro ?_ ?_ | rfl | (intro zr; rfl)))
      | (refine' callRp false zR3 rfl ?zc ?_ (fun zr zv => ?_); case zc => repeat' (first | exact trivial | refine And.intro ?_ ?_ | rfl | (intro zr; rfl)))
      | (refine' callRp false zR4 rfl ?zc ?_ (fun zr zv => ?_); case zc => repeat' (first | exact trivial | refine And.intro ?_ ?_ | rfl | (intro zr; rfl)))
      | (refine' callRp false zR5 rfl ?zc ?_ (fun zr zv => ?_); case zc => repeat' (first | exact trivial | refine And.intro ?_ ?_ | rfl | (intro zr; rfl)))
      | (refine' callRp false zR6 rfl ?zc ?_ (fun zr zv => ?_); case zc => repeat' (first | exact trivial | refine And.intro ?_ ?_ | rfl | (intro zr; rfl)))
      | (refine' callRp true zS1 rfl ?zc ?_ (fun zr zv => ?_); case zc => repeat' (first | exact trivial | refine And.intro ?_ ?_ | rfl | (intro zr; rfl)))
      | (refine' callRp true zS2 rfl ?zc ?_ (fun zr zv => ?_); case zc => repeat' (first | exact trivial | refine And.intro ?_ ?_ | rfl | (intro zr; rfl)))
      | (refine' callRp true zS3 rfl ?zc ?_ (fun zr zv => ?_); case zc => repeat' (first | exact trivial | refine And.intro ?_ ?_ | rfl | (intro zr; rfl)))
      | (refine' callRp true zS4 rfl ?zc ?_ (fun zr zv => ?_); case zc => repeat' (first | exact trivial | refine And.intro ?_ ?_ | rfl | (intro zr; rfl)))
      | (refine' callRp true zS5 rfl ?zc ?_ (fun zr zv => ?_); case zc => repeat' (first | exact trivial | refine And.intro ?_ ?_ | rfl | (intro zr; rfl)))
      | (refine' callRp true zS6 rfl ?zc ?_ (fun zr zv => ?_); case zc => repeat' (first | exact trivial | refine And.intro ?_ ?_ | rfl | (intro zr; rfl)))
      | (refine' callXp zX1 rfl ?zc ?_ ?_; case zc => repeat' (first | exact trivial | refine And.intro ?_ ?_ | rfl))
      | (refine' callXp zX2 rfl ?zc ?_ ?_; case zc => repeat' (first | exact trivial | refine And.intro ?_ ?_ | rfl))
      | (refine' callXp zX3 rfl ?zc ?_ ?_; case zc => repeat' (first | exact trivial | refine And.intro ?_ ?_ | rfl))
      | (refine' callOp zO1 rfl ?zc ?_ ?_; case zc => repeat' (first | exact trivial | refine And.intro ?_ ?_ | rfl))
      | (refine' callOp zO2 rfl ?zc ?_ ?_; case zc => repeat' (first | exact trivial | refine And.intro ?_ ?_ | rfl))
      | (refine' callOp zO3 rfl ?zc ?_ ?_; case zc => repeat' (first | exact trivial | refine And.intro ?_ ?_ | rfl))
      | (refine' callAp zA1 rfl ?zc ?_ ?_; case zc => repeat' (first | exact trivial | refine And.intro ?_ ?_ | rfl))
      | (refine' callAp zA2 rfl ?zc ?_ ?_; case zc => repeat' (first | exact trivial | refine And.intro ?_ ?_ | rfl))
      | (refine' callAp zA3 rfl ?zc ?_ ?_; case zc => repeat' (first | exact trivial | refine And.intro ?_ ?_ | rfl))
      | (refine' callMp zM1 rfl ?zc ?_ ?_; case zc => repeat' (first | exact trivial | refine And.intro ?_ ?_ | rfl))
      | (refine' callMp zM2 rfl ?zc ?_ ?_; case zc => repeat' (first | exact trivial | refine And.intro ?_ ?_ | rfl))
      | (refine' callMp zM3 rfl ?zc ?_ ?_; case zc => repeat' (first | exact trivial | refine And.intro ?_ ?_ | rfl))
      | (refine callNp 0 (fun zt => zN1 zt) rfl rfl rfl rfl (fun _ => rfl) rfl rfl rfl rfl rfl (fun _ => ⟨rfl, trivial⟩) (fun _ => rfl) (fun _ => rfl) rfl rfl ?_ ?_)
      | (refine callNp 0 (fun zt => zN1 zt) rfl rfl rfl rfl (fun _ => rfl) rfl rfl rfl rfl rfl (fun _ => ?_) (fun _ => rfl) (fun _ => rfl) rfl rfl ?_ ?_; focus repeat' (first | exact trivial | refine And.intro ?_ ?_ | rfl))
      | (refine callNp 1 (fun zt => zN1 zt) rfl rfl rfl rfl (fun _ => rfl) rfl rfl rfl rfl rfl (fun _ => ?_) (fun _ => rfl) (fun _ => rfl) rfl rfl ?_ ?_; focus repeat' (first | exact trivial | refine And.intro ?_ ?_ | rfl))
      | (refine callNp 0 (fun zt => zN2 zt) rfl rfl rfl rfl (fun _ => rfl) rfl rfl rfl rfl rfl (fun _ => ⟨rfl, trivial⟩) (fun _ => rfl) (fun _ => rfl) rfl rfl ?_ ?_)
      | (refine callNp 0 (fun zt => zN2 zt) rfl rfl rfl rfl (fun _ => rfl) rfl rfl rfl rfl rfl (fun _ => ?_) (fun _ => rfl) (fun _ => rfl) rfl rfl ?_ ?_; focus repeat' (first | exact trivial | refine And.intro ?_ ?_ | rfl))
      | (refine callNp 1 (fun zt => zN2 zt) rfl rfl rfl rfl (fun _ => rfl) rfl rfl rfl rfl rfl (fun _ => ?_) (fun _ => rfl) (fun _ => rfl) rfl rfl ?_ ?_; focus repeat' (first | exact trivial | refine And.intro ?_ ?_ | rfl))
      | (refine callNp 0 (fun zt => zN3 zt) rfl rfl rfl rfl (fun _ => rfl) rfl rfl rfl rfl rfl (fun _ => ⟨rfl, trivial⟩) (fun _ => rfl) (fun _ => rfl) rfl rfl ?_ ?_)
      | (refine callNp 0 (fun zt => zN3 zt) rfl rfl rfl rfl (fun _ => rfl) rfl rfl rfl rfl rfl (fun _ => ?_) (fun _ => rfl) (fun _ => rfl) rfl rfl ?_ ?_; focus repeat' (first | exact trivial | refine And.intro ?_ ?_ | rfl))
      | (refine callNp 1 (fun zt => zN3 zt) rfl rfl rfl rfl (fun _ => rfl) rfl rfl rfl rfl rfl (fun _ => ?_) (fun _ => rfl) (fun _ => rfl) rfl rfl ?_ ?_; focus repeat' (first | exact trivial | refine And.intro ?_ ?_ | rfl))
      | (refine' callVp false zV1 rfl ?zc ?_ ?_; case zc => repeat' (first | exact trivial | refine And.intro ?_ ?_ | rfl))
      | (refine' callVp false zV2 rfl ?zc ?_ ?_; case zc => repeat' (first | exact trivial | refine And.intro ?_ ?_ | rfl))
      | (refine' callVp false zV3 rfl ?zc ?_ ?_; case zc => repeat' (first | exact trivial | refine And.intro ?_ ?_ | rfl))
      | (refine' callVp true zW1 rfl ?zc ?_ ?_; case zc => repeat' (first | exact trivial | refine And.intro ?_ ?_ | rfl))
      | (refine' callVp true zW2 rfl ?zc ?_ ?_; case zc => repeat' (first | exact trivial | refine And.intro ?_ ?_ | rfl))
      | (refine' callVp true zW3 rfl ?zc ?_ ?_; case zc => repeat' (first | exact trivial | refine And.intro ?_ ?_ | rfl)))
    | (refine gate 5 rfl ?_; first
      | refine litW rfl rfl rfl rfl rfl rfl ?_)
    | (refine gate 2 rfl ?_; first
      | refine apOS rfl rfl rfl rfl rfl rfl rfl rfl rfl rfl rfl ?_ ?_ ?_
      | refine apOL rfl rfl rfl rfl rfl rfl rfl rfl rfl rfl rfl rfl ?_ ?_ ?_
      | refine apNS rfl rfl rfl rfl rfl rfl rfl rfl rfl rfl rfl ?_ ?_ ?_
      | refine apNL rfl rfl rfl rfl rfl rfl rfl rfl rfl rfl rfl rfl ?_ ?_ ?_
      | refine apDO rfl rfl rfl rfl rfl rfl rfl rfl rfl rfl rfl rfl rfl rfl ?_ ?_ ?_
      | refine apDN rfl rfl rfl rfl rfl rfl rfl rfl rfl rfl rfl rfl rfl rfl ?_ ?_ ?_
      | refine op_apMk _ rfl rfl rfl rfl rfl rfl rfl rfl rfl rfl rfl rfl rfl ?_ ?_ ?_ ?_
      | refine apDS rfl rfl rfl rfl rfl rfl rfl rfl rfl rfl rfl ?_ ?_ ?_)
    | (refine gate 6 rfl ?_; refine mkS rfl rfl rfl rfl rfl rfl rfl rfl rfl rfl rfl rfl rfl ?_ ?_ ?_ ?_)
    | (refine gate 6 rfl ?_; refine op_makeD _ rfl rfl rfl rfl rfl rfl rfl rfl rfl rfl rfl rfl rfl ?_ ?_ ?_ ?_)
    | (refine gate 0 rfl ?_; refine op_storeD rfl rfl rfl rfl rfl rfl rfl rfl rfl rfl ?_)
    | (refine gate 3 rfl ?_; refine op_capN rfl rfl rfl rfl rfl ?_)
    | (refine gate 3 rfl ?_; refine op_copy rfl rfl rfl rfl rfl rfl rfl rfl rfl rfl rfl ?_)
    | (refine gate 9 rfl ?_; refine op_bs rfl rfl rfl rfl rfl rfl rfl rfl ?_)
    | (refine gate 9 rfl ?_; refine op_bs rfl rfl rfl rfl rfl rfl rfl rfl ?_)
    | (refine gate 9 rfl ?_; refine op_cvF rfl rfl rfl rfl rfl rfl rfl rfl ?_)
    | (refine gate 8 rfl ?_; refine op_mkFn rfl rfl rfl rfl ?_)
    | (refine gate 7 rfl ?_; refine op_nil rfl rfl rfl rfl rfl rfl (fun zb zhb => ?_))
    | (refine gate 7 rfl ?_; refine op_seq rfl rfl rfl rfl rfl rfl rfl (by first | decide +kernel | kernel_rfl) rfl ?_)
    | (refine inW ?_; first
      | refine W_seq ?_
      | refine W_region ?_
      | refine W_drawN (by decide +kernel) ?_
      | refine W_block ?_
      | refine W_skip ?_
      | refine W_exit ?_
      | refine W_ret ?_
      | refine W_condT rfl rfl ?_
      | refine W_condF rfl rfl ?_
      | (refine W_condB rfl ?_ ?_ <;> intro zq <;> try (exfalso; clear zh1 zh2 zh3 zh4 zh5 zh6 zh7 zh8 zh9 zh10 zh11 zh12 zh13 zh14 zh15 zh16; (simp_all) <;> omega)))
    | (refine inE ?_; first
      | refine end_d rfl rfl rfl rfl ?_ ?_
      | refine end_o rfl rfl rfl rfl ?_ ?_
      | refine end_of rfl rfl rfl ?_ ?_)
    | refine ⟨_, _, _, rfl, rfl, rfl, rfl, ?_⟩
    | refine rsOne ?_
    | refine msPd rfl ?_
    | refine msPn ?_
    | refine msPo rfl ?_
    | refine And.intro ?_ ?_
    | (show List.length _ ≠ 1; simp)
    | (show (_ : Int) ≤ _; first | omega | (simp [IntKind.bits, dflt] <;> omega) | (clear zh1 zh2 zh3 zh4 zh5 zh6 zh7 zh8 zh9 zh10 zh11 zh12 zh13 zh14 zh15 zh16; simp at *; omega))
    | (show (_ : Int) < _; first | omega | (simp [IntKind.bits, dflt] <;> omega) | (clear zh1 zh2 zh3 zh4 zh5 zh6 zh7 zh8 zh9 zh10 zh11 zh12 zh13 zh14 zh15 zh16; simp at *; omega))
    | (show (_ : Nat) ≤ _; first | omega | (unfold maxLen; omega) | (simp [IntKind.bits, dflt] <;> omega) | (clear zh1 zh2 zh3 zh4 zh5 zh6 zh7 zh8 zh9 zh10 zh11 zh12 zh13 zh14 zh15 zh16; simp at *; omega))
    | rfl)
  all_goals (repeat (first | revert zq | revert zv | revert zr | revert zhb | revert zb))
  all_goals (first | ((first | have : True := zh1.1 | skip); (first | have : True := zh2.1 | skip); (first | have : True := zh3.1 | skip); (first | have : True := zh4.1 | skip); (first | have : True := zh5.1 | skip); (first | have : True := zh6.1 | skip); (first | have : True := zh7.1 | skip); (first | have : True := zh8.1 | skip); (first | have : True := zh9.1 | skip); (first | have : True := zh10.1 | skip); (first | have : True := zh11.1 | skip); (first | have : True := zh12.1 | skip); (first | have : True := zh13.1 | skip); (first | have : True := zh14.1 | skip); (first | have : True := zh15.1 | skip); (first | have : True := zh16.1 | skip); exact Mk.mk) | with_reducible exact zh1.1 | with_reducible exact zh2.1 | with_reducible exact zh3.1 | with_reducible exact zh4.1 | with_reducible exact zh5.1 | with_reducible exact zh6.1 | with_reducible exact zh7.1 | with_reducible exact zh8.1 | with_reducible exact zh9.1 | with_reducible exact zh10.1 | with_reducible exact zh11.1 | with_reducible exact zh12.1 | with_reducible exact zh13.1 | with_reducible exact zh14.1 | with_reducible exact zh15.1 | with_reducible exact zh16.1)
  ) : G := zP ⟨h1⟩ ⟨h2⟩ ⟨h3⟩ ⟨h4⟩ ⟨h5⟩ ⟨h6⟩ ⟨h7⟩ ⟨h8⟩ ⟨h9⟩ ⟨h10⟩ ⟨h11⟩ ⟨h12⟩ ⟨h13⟩ ⟨h14⟩ ⟨h15⟩ ⟨h16⟩
end Go.LX

