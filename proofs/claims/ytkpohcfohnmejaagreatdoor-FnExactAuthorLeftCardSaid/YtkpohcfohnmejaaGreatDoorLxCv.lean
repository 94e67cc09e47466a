/- A part of the proof of the statement in the row text. -/
import Derived.Test.YtkpohcfohnmejaaGreatDoorLxNl
import Derived.Laws.BytesString
import Derived.Lib.SlBytesConst
/- Functions that hand back a pointer to a new box. -/
set_option linter.unusedVariables false
set_option linter.unusedSimpArgs false
namespace Go.LX

variable {P : Program} {σ : St}
/-- A new box, as a function hands it back. -/
def BoxNew (w w' : World) (I : Nat → Prop) (ds : List (Σ t : Ty, t.T)) (v : Value) : Prop :=
  ∃ b f, v = .pointer (some ⟨b, f, none⟩) ∧ w.heap.size ≤ b ∧ b < w'.heap.size ∧ ¬ I b ∧ ∀ (j : Nat) (c : Σ t : Ty, t.T), ds[j]? = some c → ∃ u, w'.cell? ⟨b, f + j, none⟩ = some u ∧ w'.frozen? ⟨b, f + j, none⟩ = false ∧ u.oneCell' = true ∧ RT w' I c.1 c.2 [u]
def FnBx [Glob] (P : Program) (f : FuncId) (args : List SA) (ds : List (Σ t : Ty, t.T)) : Prop :=
  ∀ (w : World) (I : Nat → Prop) (vals : List Value), (∀ b, I b → b < w.heap.size) ∧ GlobOK w I → ARs w I args vals [] [] →
    Calls P f vals.toArray w fun e w' => ∃ v, e = .returned v ∧ FrameC w w' [] [] ∧ ∃ I' : Nat → Prop, (∀ b, I b → I' b) ∧ (∀ b, I' b → b < w'.heap.size ∧ (b < w.heap.size → I b)) ∧ BoxNew w w' I' ds v
def EndBx (fn : Func) (ds : List (Σ t : Ty, t.T)) (e : Exit) (σ : St) : Prop :=
  finX e = true ∧ ∃ t o cs, fn.results = #[.tmp t] ∧ Nat.ble 1000 o = true ∧ σ.slots t = .one (.rf o (.pb 0)) ∧ σ.objs o = some (.cells cs) ∧ All2 (fun (c : Σ t : Ty, t.T) k => asT σ.objs c.1 k = some c.2) ds cs
theorem FnBx_of [Glob] {f : FuncId} {fn : Func} {c : Code} {args : List SA} {ds : List (Σ t : Ty, t.T)} (hf : P.funcs[f]? = some fn) (hb : fn.body = some c) (hn : Nat.ble args.length fn.ntmps = true) (hsz : szsOK args = true) (hW : W P c (EndBx fn ds) (St.enter fn.ntmps args)) : FnBx P f args ds := by
  intro w I vals hI hargs
  refine calls_of_wp hf hb ?_
  obtain ⟨g, hinv⟩ := Inv.enter (n := fn.ntmps) hI.1 hI.2 hargs (by simp) (by simp) hsz (Nat.le_of_ble_eq_true hn)
  have e0 : vals.toArray ++ Array.replicate (fn.ntmps - vals.toArray.size) undef = vals.toArray ++ Array.replicate (fn.ntmps - vals.length) undef := by simp
  rw [e0]
  refine wp_mono (hW _ w I _ _ hinv) ?_
  rintro e ⟨tm, df⟩ w' ⟨hd, σ', I', g', ⟨he, t, o, cs, hres, ho, hsl, hob, hall⟩, hi⟩
  obtain rfl : df = [] := hd
  have ho' : 1000 ≤ o := Nat.le_of_ble_eq_true ho
  have main : bodyPost P fn (fun e w' => ∃ v, e = .returned v ∧ FrameC w w' [] [] ∧ ∃ I' : Nat → Prop, (∀ b, I b → I' b) ∧ (∀ b, I' b → b < w'.heap.size ∧ (b < w.heap.size → I b)) ∧ BoxNew w w' I' ds v) .ret ⟨tm, []⟩ w' := by
    have hx : resOf P σ' (.tmp t) = some (false, [.rf o (.pb 0)]) := by simp only [resOf, hsl]
    obtain ⟨v, hv, h1, h2⟩ := res_val (P := P) hi hx
    have h1' : v.oneCell' = true := by simpa using h1
    have hrun : (results fn tm).run P w' = .ok v w' := by
      have e : fn.results = [ResultVar.tmp t].toArray := by rw [hres]
      unfold results
      rw [e]
      simp only [List.mapM_toArray, Sem.run_bind, Sem.run_map, Sem.run_pure]
      have : (([ResultVar.tmp t] : List ResultVar).mapM (resSem tm)).run P w' = .ok [v] w' := by
        rw [List.mapM_cons, Sem.run_bind, hv]
        rfl
      exact congrArg (fun r : Result (List Value) => (r.andThen fun a w' => Result.ok a.toArray w').andThen fun a w' => Result.ok (if h : a.size = 1 then a[0] else Value.tuple a) w') this
    obtain ⟨u, q1, q2, q3⟩ := h2 0 _ rfl
    have hu : u = v := by
      revert h1' q1
      cases v <;> simp [Value.oneCell', Value.cells] <;> exact fun h => h.symm
    subst hu
    have q4 : seeO w' I' (g'.addr o) (g'.base o) (g'.L o) (σ'.objs o) (.pb 0) u := q3
    rw [hob] at q4
    have q5 : u = .pointer (some ⟨(g'.addr o).1, (g'.addr o).2 + 0, none⟩) := q4
    obtain ⟨hL, hbx⟩ := hi.cells hob
    have hbm : (g'.addr o).1 ∈ g'.L o := by rw [hL]; simp
    obtain ⟨o1, o2, o3⟩ := hi.own o _ hbm
    have hge : w.heap.size ≤ (g'.addr o).1 := by
      refine Nat.le_of_not_lt fun hlt => ?_
      rcases o3 with hm | ⟨a, ha, _⟩
      · have := hm hlt
        exact absurd (show (g'.addr o).1 ∈ ([] : List Nat) from this) (by simp)
      · have := (hi.ext o a ha).1; omega
    refine ⟨rfl, u, hrun, u, rfl, ⟨hi.fr.os, hi.fr.tape, hi.fr.output, hi.fr.size, fun b h1 h2 h3 => hi.fr.old b h1 h2 ?_, fun b h1 h2 f h3 => hi.fr.part b h1 h2 f ?_, fun b h1 h2 f => hi.fr.froz b h1 h2 f⟩, I', hi.imm0, fun b hb => ⟨(hi.immX b hb).1, fun hlt => ?_⟩, (g'.addr o).1, (g'.addr o).2, q5, hge, o2, o1, fun j c hj => ?_⟩
    · rintro f ⟨r, hr, _⟩; simp at hr
    · rintro ⟨r, hr, _⟩; simp at hr
    · rcases (hi.immX b hb).2 hlt with h | h
      · exact h
      · exact absurd (show b ∈ ([] : List Nat) from h) (by simp)
    · obtain ⟨k, hk, hr⟩ := hall.get hj
      obtain ⟨v, v1, v2, v3, _, v5⟩ := hbx j k hk
      exact ⟨v, v1, v2, v3, asT_ok hi v5 hr⟩
  cases e <;> first | exact main | cases he
/-- A call of such a function, with data alone. -/
theorem op_callBx [Glob] {o : Oper} {t' : Nat} {f : FuncId} {xs : List Operand} {tys : Array TypeId} {args : List SA} {ds : List (Σ t : Ty, t.T)} {id : Nat} {N : St → Prop} (hF : FnBx P f args ds) (ho : o.op = .call { callee := .value (.func f), args := xs.toArray, argTypes := tys }) (hd : o.dst = some t') (ht : Nat.blt t' σ.n = true) (hf : fnB P f = true)
    (hargs : dPs false σ.objs args (xs.map σ.ev)) (hid : newO σ.objs t' = some id) (hN : N (σ.over [(t', .one (.rf id (.pb 0)))] [(id, some (.cells (ds.map fun c => .d c.1 c.2)))])) : OpW P o N σ := by
  intro K w I g tm hi
  rw [fnB_run ho hf]
  simp only [Oper.upon]
  refine (hF w I _ ⟨fun b hb => (hi.immX b hb).1, hi.glob⟩ (dPs_ok hi (fun _ h => h) (fun h => by cases h) hargs)).mono ?_
  rintro e w' ⟨v, rfl, hfc, I', hI1, hI2, b, fo, rfl, hb1, hb2, hb3, hcell⟩
  have hgr : Grow w w' fun _ => False := ⟨hfc.os, hfc.tape, hfc.output, hfc.size, fun b hb _ => hfc.old b hb (by simp) (by simp)⟩
  have hi1 := hi.scrib hgr fun _ h => h.elim
  have hi2 : Inv K w' I' g σ tm := hi1.widen hI1 fun b hb => by
    obtain ⟨q1, q2⟩ := hI2 b hb
    by_cases hlt : b < w.heap.size
    · exact .inl (q2 hlt)
    · exact .inr ⟨free_new hi (Nat.le_of_not_lt hlt), q1⟩
  have hfree : Free K I' g b := ⟨hb3, (free_new hi hb1).l, (free_new hi hb1).m⟩
  obtain ⟨hn1, hn2⟩ := newO_ok hid
  have hnb : ¬ b < K.w0.heap.size := Nat.not_lt.2 (Nat.le_trans hi.fr.size hb1)
  have hi3 : Inv K w' I' (g.setO id (b, fo) (g.base id) [b]) (σ.setO id (.cells (ds.map fun c => .d c.1 c.2))) tm := by
    refine hi2.one (Grow.refl w' fun _ => False) (fun _ h => h.elim) hi2.fr (fun _ h => h) (fun b hb => .inl hb) (by simp) (fun x hx => by simp at hx; subst hx; exact ⟨hb2, .inr hfree, .inl hfree.m⟩) (fun a ha => absurd ha ((hi2.noE' hn2).1 a)) (fun v hv => absurd hv ((hi2.noE' hn2).2 v)) ?_ fun hk hI => ?_
    · intro r u hs; rw [hn1] at hs; exact hs.elim
    · unfold ObR; rw [St.setO_same]; rw [Gh.setO_eq.1, Gh.setO_eq.2.2]
      refine ⟨rfl, fun j c hj => ?_⟩
      rw [Gh.setO_eq.1]
      simp only [List.getElem?_map, Option.map_eq_some_iff] at hj
      obtain ⟨d, hd, rfl⟩ := hj
      obtain ⟨u, h1, h2, h3, h4⟩ := hcell j d hd
      exact ⟨u, h1, h2, h3, fun hlt => absurd hlt hnb, h4⟩
  simp only [Act.put, hd]
  refine ⟨trivial, _, I', g.setO id (b, fo) (g.base id) [b], hN, ?_⟩
  rw [show σ.over [(t', .one (.rf id (.pb 0)))] [(id, some (.cells (ds.map fun c => .d c.1 c.2)))] = (σ.setO id (.cells (ds.map fun c => .d c.1 c.2))).put t' (.one (.rf id (.pb 0))) from rfl]
  refine hi3.put (Nat.le_of_ble_eq_true ht) rfl fun i c hc => ?_
  obtain ⟨rfl, rfl⟩ := one_cell hc
  refine ⟨_, rfl, ?_⟩
  show seeO _ _ _ _ _ ((σ.setO id _).objs id) _ _
  rw [St.setO_same, Gh.setO_eq.1]
  exact rfl
end Go.LX

/- Literals whose elements are all written, in order; a walk's state told anew ahead of an operation. -/
set_option linter.unusedVariables false
set_option linter.unusedSimpArgs false
namespace Go.LX

variable {P : Program} {σ : St}
theorem OpW_weak [Glob] {o : Oper} {N : St → Prop} {σ' : St} (hw : Wk σ σ') (h : OpW P o N σ') : OpW P o N σ := by
  intro K w I g tm hi
  obtain ⟨I', g', h'⟩ := hw K w I g tm hi
  exact h K w I' g' tm h'
def flatC (size : Nat) : Nat → List (Nat × List C) → Option (List C)
  | _, [] => some []
  | j, (i, cs) :: r => bif Nat.beq i j && Nat.beq cs.length size then (flatC size (j + 1) r).map (cs ++ ·) else none
theorem flatC_fill {size : Nat} : ∀ {ps : List (Nat × List C)} {j : Nat} {cs pre rest : List C}, flatC size j ps = some cs → pre.length = j * size → rest.length = ps.length * size → fillC (fun i => some (i * size, size)) (pre ++ rest) ps = some (pre ++ cs)
  | [], j, cs, pre, rest, h, _, hr => by
    cases h
    have : rest = [] := List.eq_nil_of_length_eq_zero (by simpa using hr)
    subst this
    rfl
  | (i, c) :: ps, j, cs, pre, rest, h, hp, hr => by
    unfold flatC at h
    cases hb : (Nat.beq i j && Nat.beq c.length size) with
    | false => rw [hb] at h; cases h
    | true =>
      rw [hb] at h
      obtain ⟨b1, b2⟩ := Bool.and_eq_true_iff.1 hb
      have e1 := Nat.eq_of_beq_eq_true b1
      have e2 := Nat.eq_of_beq_eq_true b2
      subst e1
      obtain ⟨cs', hcs, rfl⟩ := Option.map_eq_some_iff.1 h
      have hlen : (ps.length + 1) * size = ps.length * size + size := by rw [Nat.add_mul]; omega
      rw [List.length_cons, hlen] at hr
      have ht : (pre ++ rest).take (i * size) = pre := by rw [← hp]; simp
      have hd : (pre ++ rest).drop (i * size + size) = rest.drop size := by rw [← hp, List.drop_append]; simp
      unfold fillC
      simp only
      rw [b2, show Nat.ble (i * size + size) (pre ++ rest).length = true from Nat.ble_eq_true_of_le (by rw [List.length_append]; omega), ht, hd]
      simp only [Bool.and_self, cond_true]
      have := flatC_fill (pre := pre ++ c) (rest := rest.drop size) hcs (by rw [List.length_append, hp, e2, Nat.add_mul]; omega) (by rw [List.length_drop]; omega)
      rw [this, List.append_assoc]
def litF (P : Program) (ev : Operand → SV) (ty : TypeId) (len : Nat) (parts : Array (Nat × Operand)) : Option (TypeId × Nat × List C) :=
  (elemB P ty).bind fun e => (sizeB P e).bind fun size => (zeroB P e).bind fun zs => (partsC ev parts.toList).bind fun ps =>
    bif plainZ zs && Nat.beq zs.length size && Nat.ble (len * size) 16777216 && Nat.ble len 16777216 && Nat.beq ps.length len then (flatC size 0 ps).map fun cs => (e, size, cs) else none
theorem litF_C {ev : Operand → SV} {ty : TypeId} {len : Nat} {parts : Array (Nat × Operand)} {r : TypeId × Nat × List C} (h : litF P ev ty len parts = some r) : litC P ev ty len parts = some r := by
  simp only [litF, Option.bind_eq_some_iff] at h
  obtain ⟨e, he, size, hs, zs, hz, ps, hp, h⟩ := h
  simp only [litC, Option.bind_eq_some_iff]
  refine ⟨e, he, size, hs, zs, hz, ps, hp, ?_⟩
  cases hb : (plainZ zs && Nat.beq zs.length size && Nat.ble (len * size) 16777216 && Nat.ble len 16777216 && Nat.beq ps.length len) with
  | false => rw [hb] at h; cases h
  | true =>
    rw [hb] at h
    obtain ⟨b1, b2⟩ := Bool.and_eq_true_iff.1 hb
    have e2 := Nat.eq_of_beq_eq_true b2
    obtain ⟨cs, hcs, rfl⟩ := Option.map_eq_some_iff.1 h
    rw [b1]
    have := flatC_fill (size := size) (pre := []) (rest := List.replicate (len * size) .any) hcs (by simp) (by simp [e2])
    simp only [List.nil_append] at this
    rw [this]
    rfl
theorem litRF [Glob] {o : Oper} {t' id len : Nat} {ty e : TypeId} {t : Ty} {xs : List t.T} {N : St → Prop} {parts : Array (Nat × Operand)} {cs : List C} (ho : o.op = .buildSlice ty len parts) (hd : o.dst = some t') (ht : Nat.blt t' σ.n = true) (he : elemB P ty = some e) (hty : tyOf P 9 e = some t) (h : litF P σ.ev ty len parts = some (e, t.w, cs)) (hm : mkRows σ.objs t len cs = some xs)
    (hid : newO σ.objs t' = some id) (hN : N (σ.over [(t', .one (.rf id .ar))] [(id, some (.rows e t false xs))])) : OpW P o N σ := litR ho hd ht he hty (litF_C h) hm hid hN
end Go.LX

/- Bytes as a string. -/
set_option linter.unusedVariables false
set_option linter.unusedSimpArgs false
namespace Go.LX

variable {P : Program} {σ : St}
theorem RW_run1 [Glob] {Q : Exit → St → Prop} {ops l : List Oper} {nw : Bool} {acc acc' : List Fp} {L : List (Prop × Upd)} {p : Prop} {l' : List Oper} {σ' : St} (h0 : simp1 l = true) (h : drawE P nw ops σ.slots σ.objs 1 l σ = some L) (h2 : ∀ s0 b0, drawE P nw ops s0 b0 1 l σ = some L) (h3 : finE ops 1 l σ acc L = some (p, acc', l', σ')) (hp : p)
    (hN : RW P ops Q acc' l' σ') : RW P ops Q acc l σ := RW_run h2 h3 hp hN
theorem foldB (xs : List UInt8) : ∀ acc : ByteArray, (xs.map fun b => (b.toNat : Int)).foldl (fun r n => r.push (UInt8.ofNat n.toNat)) acc = ⟨acc.data ++ xs.toArray⟩ := by
  induction xs with
  | nil => intro acc; simp
  | cons x xs ih =>
    intro acc
    rw [List.map_cons, List.foldl_cons, ih]
    simp [ByteArray.push]
theorem rows_bytes {w : World} {S : Nat → Prop} : ∀ {xs : List UInt8} {news : List Value}, Rows (fun (x : Ty.u8.T) us L => L = [] ∧ RT w S .u8 x us) xs news [] → news = (xs.map fun b => (b.toNat : Int)).map (Value.int .u8)
  | [], _, h => h.1
  | x :: xs, _, h => by
    obtain ⟨u1, u2, L1, L2, rfl, hL, ⟨rfl, h1⟩, h2⟩ := h
    rw [List.nil_append] at hL
    subst hL
    rw [rows_bytes h2]
    have h1 : u1 = [.int .u8 (x.toNat : Int)] := h1
    rw [h1]; rfl
def strTB (P : Program) (ty : TypeId) : Bool := match P.underlying ty with
  | some .string => true
  | _ => false
def isU8B (P : Program) (ty : TypeId) : Bool := match P.underlying ty with
  | some (.int .u8) => true
  | _ => false
theorem op_bs [Glob] {o : Oper} {t' : Nat} {s d e : TypeId} {x : Operand} {c : C} {xs : List UInt8} {N : St → Prop} (ho : o.op = .convert s d x) (hd : o.dst = some t') (ht : Nat.blt t' σ.n = true) (hs : elemB P s = some e) (he : isU8B P e = true) (hdt : strTB P d = true) (hx : σ.ev x = .one c) (hc : slC σ.objs c = some ⟨.u8, xs⟩)
    (hN : N (σ.over [(t', .one (.d .st xs))] [])) : OpW P o N σ := by
  intro K w I g tm hi
  have hrt := CR.slC hi (hi.ev_one hx).1 hc
  obtain ⟨a, cap, news, hu, hrows, hsrc⟩ := rt_src hrt
  have hnews := rows_bytes hrows
  have hus := elemB_ok hs
  have hue : P.underlying e = some (.int .u8) := by
    unfold isU8B at he
    split at he
    · assumption
    · cases he
  have hud : P.underlying d = some .string := by
    unfold strTB at hdt
    split at hdt
    · assumption
    · cases hdt
  have hrun : (execOp (Act.eval ⟨tm, []⟩) o).run P w = .ok (.value (strV xs)) w := by
    rcases hsrc with ⟨rfl, hl⟩ | ⟨a', rfl, hcell⟩
    · have : xs = [] := List.eq_nil_of_length_eq_zero hl
      subst this
      simp [execOp, ho, hu, convert, run_underlying hus, run_underlying hud, run_underlying hue, Conv.bytesToString, strV]
      rfl
    · have hl := run_loadCells_list (P := P) w a' news hcell
      have hlen : news.length = xs.length := by rw [hnews]; simp
      have hlen' : List.length (α := Ty.u8.T) xs = news.length := hlen.symm
      rw [hnews] at hl
      have := run_bytesToString (P := P) w a' news.length cap (xs.map fun b => (b.toNat : Int)) (by rw [hnews]; exact hl)
      rw [foldB] at this
      simp [execOp, ho, hu, hlen', convert, run_underlying hus, run_underlying hud, run_underlying hue, this, strV]
  rw [hrun]
  simp only [Oper.upon, Act.put, hd]
  refine ⟨trivial, _, I, g, hN, ?_⟩
  rw [← up_put]
  refine hi.put (Nat.le_of_ble_eq_true ht) rfl fun i c hc => ?_
  obtain ⟨rfl, rfl⟩ := one_cell hc
  exact ⟨_, rfl, rfl⟩
end Go.LX

/- A slice cut at its front: the rest is owned on. -/
set_option linter.unusedVariables false
set_option linter.unusedSimpArgs false
namespace Go.LX
variable {P : Program} {σ : St}
theorem op_cutF [Glob] {o : Oper} {t' id k : Nat} {ty e e' : TypeId} {x : Operand} {lb : Operand} {t : Ty} {dp : Bool} {xs : List t.T} {l : Int} {N : St → Prop} (ho : o.op = .slice ty x (some lb) none none) (hd : o.dst = some t') (ht : Nat.blt t' σ.n = true) (he : elemB P ty = some e') (hs : sizeB P e' = some t.w) (hx : σ.ev x = .one (.rf k .ar)) (hq : σ.objs k = some (.rows e t dp xs)) (hbd : bnd σ.ev (some lb) = some (some l)) (hid : newO (σ.setO k .dead).objs t' = some id)
    (h0 : 0 ≤ l) (h1 : l ≤ xs.length) (hN : N (σ.over [(t', .one (.rf id .ar))] [(id, some (.rows e t dp (xs.drop l.toNat))), (k, some .dead)])) : OpW P o N σ := by
  refine OpW_obj (σ' := (σ.setO k .dead).setO id (.rows e t dp (xs.drop l.toNat))) hd ht rfl (fun K w I g tm hi => ?_) hN
  generalize hn' : l.toNat = n
  have hn : n ≤ xs.length := by omega
  have hu : Act.eval ⟨tm, []⟩ x = g.base k := by
    have hc' : seeO w I (g.addr k) (g.base k) (g.L k) (σ.objs k) .ar (Act.eval ⟨tm, []⟩ x) := (hi.ev_one hx).1
    rw [hq] at hc'; exact hc'
  obtain ⟨b1, b2⟩ := bnd_ok hi hbd
  obtain ⟨vs, L', hor, hrows, hL⟩ := hi.rows hq
  obtain ⟨hk1, hk2⟩ := hi.kill hq
  have hx2 : xs = xs.take n ++ xs.drop n := (List.take_append_drop _ _).symm
  have hvl := hor.1
  rw [hx2] at hrows
  obtain ⟨u1, u2, L1, L2, hvs, hL12, r1, r2⟩ := hrows.split
  have hu1 : u1.length = n * t.w := by rw [r1.len (fun _ _ _ h => h.len), List.length_take, Nat.min_eq_left hn]
  have hu2 : u2.length = (xs.length - n) * t.w := by rw [r2.len (fun _ _ _ h => h.len), List.length_drop]
  have res : ∃ v', (execOp (Act.eval ⟨tm, []⟩) o).run P w = .ok (.value v') w ∧ ownsR w e t.w v' (xs.length - n) u2 ∧ v'.ownBlock = (g.base k).ownBlock ∧ v'.oneCell' = true := by
    rcases hor.2 with ⟨hb0, hn0⟩ | ⟨b, f1, cap, cur, hb0, hg, hnc, hcm, hcs, htake⟩
    · have hrun := run_sliceB (P := P) (elemB_ok he) hs (lo := some (Act.eval ⟨tm, []⟩ lb)) (l := some l) (hi' := none) (h := none) b1 (fun hv => by cases hv) (fun v hv => by cases hv) (fun _ => rfl) none 0 0 (Nat.le_refl _) (by simpa using h0) (by simp; omega) (by simp) w
      have hz0 : n = 0 := by omega
      refine ⟨.slice none 0 0, ?_, ⟨by rw [hu2], .inl ⟨rfl, by omega⟩⟩, by rw [hb0], rfl⟩
      simp only [execOp, ho, hu, hb0, Option.map_none, Option.map_some, Sem.run_bind] at hrun ⊢
      rw [hrun]
      simp [sliced, hn', hz0]
    · have hrun := run_sliceB (P := P) (elemB_ok he) hs (lo := some (Act.eval ⟨tm, []⟩ lb)) (l := some l) (hi' := none) (h := none) b1 (fun hv => by cases hv) (fun v hv => by cases hv) (fun _ => rfl) (some ⟨b, f1, none⟩) xs.length cap hnc (by simpa using h0) (by simp; omega) (by simp) w
      have hdrop : ((cur.toList.drop (f1 + n * t.w)).take ((xs.length - n) * t.w)) = u2 := by
        have : vs.drop (n * t.w) = u2 := by rw [hvs, ← hu1, List.drop_left]
        rw [← this, ← htake, List.drop_take, List.drop_drop, ← Nat.sub_mul]
      by_cases hc : cap = n
      · have hxn : xs.length - n = 0 := by omega
        refine ⟨.slice (some ⟨b, f1, none⟩) (xs.length - n) (cap - n), ?_, ⟨hu2, .inr ⟨b, f1, cap - n, cur, rfl, hg, by omega, by omega, ?_, ?_⟩⟩, by rw [hb0]; rfl, rfl⟩
        · simp only [execOp, ho, hu, hb0, Option.map_none, Option.map_some, Sem.run_bind] at hrun ⊢
          rw [hrun]
          simp [sliced, hn', hc]
        · rw [hc, Nat.sub_self, Nat.zero_mul]; omega
        · rw [hxn, Nat.zero_mul] at hu2 ⊢
          rw [List.take_zero, List.eq_nil_of_length_eq_zero hu2]
      · refine ⟨.slice (some ⟨b, f1 + n * t.w, none⟩) (xs.length - n) (cap - n), ?_, ⟨hu2, .inr ⟨b, f1 + n * t.w, cap - n, cur, rfl, hg, by omega, by omega, ?_, hdrop⟩⟩, by rw [hb0]; rfl, rfl⟩
        · simp only [execOp, ho, hu, hb0, Option.map_none, Option.map_some, Sem.run_bind] at hrun ⊢
          rw [hrun]
          simp [sliced, hn', hc, addr_add]
        · have e : f1 + n * t.w + (cap - n) * t.w = f1 + cap * t.w := by
            rw [Nat.add_assoc, ← Nat.add_mul, Nat.add_sub_cancel' (by omega : n ≤ cap)]
          rw [e]; exact hcs
  obtain ⟨v', hrun, hrow, hblk, hone⟩ := res
  have hnod := hi.nod k
  rw [hL, hL12] at hnod
  have hsub : ∀ b ∈ v'.ownBlock.toList ++ L2, b ∈ g.L k := fun b hb => by
    rw [hL, hL12]
    simp only [List.mem_append] at hb ⊢
    rw [hblk] at hb
    exact hb.imp (fun h => h) .inr
  have hnd : (v'.ownBlock.toList ++ L2).Nodup := by
    rw [hblk]
    simp only [List.nodup_append, List.mem_append] at hnod ⊢
    obtain ⟨n1, ⟨_, n2, _⟩, n4⟩ := hnod
    exact ⟨n1, n2, fun a ha c hc => n4 a ha c (.inr hc)⟩
  have hnew := hk1.newRows (o := id) (e := e) (t := t) (dp := dp) (xs := xs.drop n) (v := v') (L := v'.ownBlock.toList ++ L2) (newO_ok hid).1 (fun v hv => absurd hv ((hk1.noE' (newO_ok hid).2).2 v)) (hk1.noE' (newO_ok hid).2).1 hnd (fun b hb => hk2 b (hsub b hb)) ⟨u2, L2, by rw [List.length_drop]; exact hrow, r2, rfl⟩
  refine ⟨v', w, I, _, hrun, hnew, shape_one hone ?_⟩
  show seeO _ _ _ _ _ (((σ.setO k .dead).setO _ _).objs _) _ _
  rw [St.setO_same, Gh.setO_eq.2.1]
  rfl
end Go.LX

/- One guarded operation at a time. -/
set_option linter.unusedVariables false
set_option linter.unusedSimpArgs false
namespace Go.LX
variable {P : Program} {σ : St}
def simpG1 : List Oper → Bool
  | o :: _ => simpO o.op
  | [] => false
theorem WO_runG1 [Glob] {Q : Exit → St → Prop} {ops l : List Oper} {nw : Bool} {j d : Nat} {b : Bool} {l' : List Oper} {σ' : St} {p : Prop} (hg : gOf l = some j) (hd : gSlot ops j = some d) (hb : σ.slots d = .one (.d .bo b)) (h0 : simpG1 l = true) (h : runE P nw ops 1 l σ = some (p, l', σ')) (hp : p) (hN : WO P ops.toArray Q l' σ') : WO P ops.toArray Q l σ := WO_run h hp hN
end Go.LX

/- A constant string's bytes: the row is marked, and stands fixed from then on. -/
set_option linter.unusedVariables false
set_option linter.unusedSimpArgs false
namespace Go.LX
variable {P : Program} {σ : St}
theorem freeze_facts {w : World} {b n : Nat} {cur : Array Value} {e : TypeId} {fr : Nat × Nat} (h : w.heap[b]? = some (.cells cur e fr)) :
    (∀ f, (w.freeze ⟨b, n, none⟩ 1).cell? ⟨b, f, none⟩ = w.cell? ⟨b, f, none⟩) ∧ (∀ x, x ≠ b → (w.freeze ⟨b, n, none⟩ 1).heap[x]? = w.heap[x]?) ∧ (w.freeze ⟨b, n, none⟩ 1).heap.size = w.heap.size ∧ (w.freeze ⟨b, n, none⟩ 1).os = w.os ∧ (w.freeze ⟨b, n, none⟩ 1).tape = w.tape ∧ (w.freeze ⟨b, n, none⟩ 1).output = w.output := by
  obtain ⟨hlt, hg⟩ := Array.getElem?_eq_some_iff.1 h
  unfold World.freeze
  rw [if_neg (by decide)]
  refine ⟨fun f => ?_, fun x hx => ?_, by simp, rfl, rfl, rfl⟩
  · simp [World.cell?, hlt, Array.getElem_modify, hg]
  · simp only [Array.getElem?_modify]
    rw [if_neg (Ne.symm hx)]
theorem op_cvF [Glob] {o : Oper} {t' k : Nat} {ty e e' : TypeId} {x : Operand} {dp : Bool} {xs : List Ty.u8.T} {N : St → Prop} (ho : o.op = .convert ty ty x) (hd : o.dst = some t') (ht : Nat.blt t' σ.n = true) (he : elemB P ty = some e') (hu8 : isU8B P e' = true) (hx : σ.ev x = .one (.rf k .ar)) (hq : σ.objs k = some (.rows e .u8 dp xs)) (h0 : Nat.blt 0 xs.length = true)
    (hN : N (σ.over [(t', .one (.rf k .ar))] [(k, some (.fz .u8 dp xs))])) : OpW P o N σ := by
  intro K w I g tm hi
  have h0 := Nat.le_of_ble_eq_true h0
  have hu : Act.eval ⟨tm, []⟩ x = g.base k := by
    have hc' : seeO w I (g.addr k) (g.base k) (g.L k) (σ.objs k) .ar (Act.eval ⟨tm, []⟩ x) := (hi.ev_one hx).1
    rw [hq] at hc'; exact hc'
  have hoa := hi.rows hq
  obtain ⟨vs, L', hor, hrows, hL⟩ := hoa
  rcases hor.2 with ⟨_, hn0⟩ | ⟨b, f1, cap, cur, hb0, hg, hnc, hcm, hcs, htake⟩
  · omega
  have hown : b ∈ g.L k := by rw [hL, hb0]; simp [Value.ownBlock]
  obtain ⟨q1, q2, q3, q4, q5, q6⟩ := freeze_facts (n := cur.size) hg
  have hrun : (execOp (Act.eval ⟨tm, []⟩) o).run P w = .ok (.value (g.base k)) (w.freeze ⟨b, cur.size, none⟩ 1) := by
    have hus := elemB_ok he
    have hue : P.underlying e' = some (.int .u8) := by
      unfold isU8B at hu8
      split at hu8
      · assumption
      · cases hu8
    have hsh : w.shape? b = some (e, cur.size) := by unfold World.shape?; rw [hg]
    simp [execOp, ho, hu, hb0, convert, run_underlying hus, run_underlying hue, markStringish, hsh]
  generalize w.freeze ⟨b, cur.size, none⟩ 1 = w' at q1 q2 q3 q4 q5 q6 hrun
  have hgr : Grow w w' fun x => x = b := ⟨q4, q5, q6, by omega, fun x _ hx => q2 x hx⟩
  have hcell : ∀ x f, w'.cell? ⟨x, f, none⟩ = w.cell? ⟨x, f, none⟩ := fun x f => by
    by_cases hxb : x = b
    · rw [hxb]; exact q1 f
    · exact cell_block (q2 x hxb) f
  have hinv : Inv K w' (fun b => I b ∨ b ∈ g.L k) (g.setO k (g.addr k) (g.base k) []) (σ.setO k (.fz .u8 dp xs)) tm := by
    refine hi.one (T := fun x => x = b) hgr (fun x hx => .inl (by rw [hx]; exact hown)) (hi.fr.step (T := fun x => x = b) hgr fun x hx => by rw [hx]; exact hi.own_mine hq (fun _ h => by cases h) hown) (fun _ h => .inl h) (fun c hc => hc.imp id fun hc => ⟨.inl hc, hi.own_mine hq (fun _ h => by cases h) hc, by simp, by rw [q3]; exact hi.ob_lt hc⟩) List.nodup_nil (fun c hc => by simp at hc) (fun a ha => absurd ha (hi.noE hq (fun _ h => by cases h) a)) (fun v hv => (hi.exB k v hv).2 _ hq) ?_ fun _ _ => ?_
    · intro r u hs
      rw [hq] at hs
      rw [St.setO_same, Gh.setO_eq.1, Gh.setO_eq.2.1]
      exact see_fz (fun c hc => ⟨fun hc => hc, fun f => hcell c f⟩) hs
    · unfold ObR; rw [St.setO_same]; rw [Gh.setO_eq.2.1, Gh.setO_eq.2.2]
      exact ⟨rfl, (hi.rows hq).rt.kept (fun _ h => h) fun c _ f => hcell c f⟩
  rw [hrun]
  simp only [Oper.upon, Act.put, hd]
  refine ⟨trivial, _, (fun b => I b ∨ b ∈ g.L k), g.setO k (g.addr k) (g.base k) [], hN, ?_⟩
  refine hinv.put (s := .one (.rf k .ar)) (u := g.base k) (Nat.le_of_ble_eq_true ht) (by rw [hb0]; rfl) fun i c hc => ?_
  obtain ⟨rfl, rfl⟩ := one_cell hc
  refine ⟨g.base k, by rw [hb0]; rfl, ?_⟩
  show seeO _ _ _ _ _ ((σ.setO k _).objs k) _ _
  rw [St.setO_same, Gh.setO_eq.2.1]
  rfl
end Go.LX

