/- Functions that write into the slice that they are handed. -/
import Derived.Test.YtbebnlhgnbnjoaaAxElem
set_option linter.unusedVariables false
set_option linter.unusedSimpArgs false
namespace Go.AX

variable {P : Program} {σ : St}

/-- The first argument: the slice u, alone or among a struct's cells. -/
def mutR (w : World) (S : Nat → Prop) (b : Bool) (pre post : List D) (u v : Value) : Prop :=
  if b = true then ∃ us1 us2 : List Value, v = .agg (us1 ++ u :: us2).toArray ∧ All2 (Rd w S) pre us1 ∧ All2 (Rd w S) post us2 else v = u ∧ pre = [] ∧ post = []

/-- The function f writes rs' over the rows rs of the slice in its first argument, and returns the scalar r. -/
def FnMu (P : Program) (f : FuncId) (b : Bool) (pre post : List D) (rest : List (Bool × List D)) (e : TypeId) (size : Nat) (rs rs' : List (List D)) (r : Value) : Prop :=
  ∀ (w : World) (S : Nat → Prop) (u v0 : Value) (vals : List Value) (L : List Nat), (∀ b, S b → b < w.heap.size) → ROT (RO w S 0) w S e size rs u L → (∀ b ∈ L, ¬ S b) → mutR w S b pre post u v0 → All2 (argR w S) rest vals →
    Calls P f (v0 :: vals).toArray w fun en w' => en = .returned r ∧ w.grownBy w' u.ownBlock ∧ ROT (RO w' S 0) w' S e size rs' u L

def mutSV (b : Bool) (pre post : List D) (c : C) : SV := match b with
  | true => .ag (pre.map .d ++ c :: post.map .d)
  | false => .one c
def St.enterM (n : Nat) (s : SV) (rest : List (Bool × List D)) : St := ⟨n, fun t => match t with | 0 => s | t + 1 => enterS rest t, fun _ => none⟩
/-- What such a body must end with: the scalar result; the slice, where it came in, with its rows. -/
def MuQ (fn : Func) (p : Pl) (c : C) (r : Value) (e : Exit) (σ : St) : Prop := finX e = true ∧ ∃ t, fn.results.toList = [.tmp t] ∧ σ.slots t = .one (.d (.v r)) ∧ σ.absAt p = some c

theorem vals_get {vs : List Value} {n : Nat} {t : Nat} {v : Value} (hv : vs[t]? = some v) : (vs.toArray ++ Array.replicate (n - vs.length) undef).getD t undef = v := by
  have hlt : t < vs.length := (List.getElem?_eq_some_iff.1 hv).1
  simp [Array.getD_eq_getD_getElem?, Array.getElem?_append, hlt] at hv ⊢
  simp [hv]

theorem Inv.enterM {w : World} {S : Nat → Prop} {u v0 : Value} {vals : List Value} {L : List Nat} {b : Bool} {pre post : List D} {rest : List (Bool × List D)} {e : TypeId} {size n : Nat} {rs : List (List D)} (hS : ∀ b, S b → b < w.heap.size) (hroc : ROT (RO w S 0) w S e size rs u L) (hL : ∀ b ∈ L, ¬ S b)
    (hm : mutR w S b pre post u v0) (h : All2 (argR w S) rest vals) (hn : rest.length + 1 ≤ n) :
    Inv ⟨w, S, fun b => b ∈ L, fun _ _ => False⟩ w S ⟨fun _ => (0, 0), fun p => if p = ⟨false, 0, pre.length⟩ then L else []⟩ (St.enterM n (mutSV b pre post (.ow ⟨e, some u⟩ size 0 rs)) rest) ((v0 :: vals).toArray ++ Array.replicate (n - (v0 :: vals).length) undef) := by
  have hl := h.length
  have hLn : L.Nodup := by
    obtain ⟨xs, L', ho, _, hoc, rfl⟩ := hroc
    obtain ⟨_, rfl⟩ := hoc.im_iff
    cases u.ownBlock <;> simp
  have hone : u.oneCell' = true := by
    obtain ⟨xs, L', ho, _⟩ := hroc
    rcases ho.2 with ⟨rfl, _⟩ | ⟨g, cap, cur, rfl, _⟩ <;> rfl
  have hg0 : ((v0 :: vals).toArray ++ Array.replicate (n - (v0 :: vals).length) undef).getD 0 undef = v0 := vals_get rfl
  have hgs : ∀ t v, vals[t]? = some v → ((v0 :: vals).toArray ++ Array.replicate (n - (v0 :: vals).length) undef).getD (t + 1) undef = v := fun t v hv => vals_get (by simpa using hv)
  have hLmem : ∀ (p : Pl) b, b ∈ (if p = ⟨false, 0, pre.length⟩ then L else []) → p = ⟨false, 0, pre.length⟩ ∧ b ∈ L := by
    intro p b hb
    split at hb
    · exact ⟨by assumption, hb⟩
    · cases hb
  generalize hσ : St.enterM n (mutSV b pre post (.ow ⟨e, some u⟩ size 0 rs)) rest = σ
  generalize htm : (v0 :: vals).toArray ++ Array.replicate (n - (v0 :: vals).length) undef = tm at hg0 hgs
  have hs0 : σ.slots 0 = mutSV b pre post (.ow ⟨e, some u⟩ size 0 rs) := by rw [← hσ]; rfl
  have hss : ∀ t, σ.slots (t + 1) = enterS rest t := by intro t; rw [← hσ]; rfl
  have hbx : ∀ o, σ.boxes o = none := by intro o; rw [← hσ]; rfl
  have hcl : (mutSV b pre post (.ow ⟨e, some u⟩ size 0 rs)).cells[pre.length]? = some (.ow ⟨e, some u⟩ size 0 rs) := by
    unfold mutR at hm
    cases b with
    | true => simp [mutSV, SV.cells]
    | false =>
      simp at hm
      obtain ⟨_, rfl, rfl⟩ := hm
      rfl
  have hp0 : σ.absAt ⟨false, 0, pre.length⟩ = some (.ow ⟨e, some u⟩ size 0 rs) := by simp [St.absAt, hs0, hcl]
  refine {
    fr := ⟨rfl, rfl, rfl, Nat.le_refl _, fun _ _ _ _ => rfl, fun _ _ _ _ _ => rfl, fun _ _ _ _ => rfl⟩
    size := by rw [← hσ, ← htm]; simp [St.enterM]; omega
    imm0 := fun _ h => h
    immX := fun b hb => ⟨hS b hb, fun _ => .inl hb⟩
    dis := fun p q b hb hb' => by rw [(hLmem p b hb).1, (hLmem q b hb').1]
    nod := fun p => by simp only; split; exact hLn; exact List.nodup_nil
    own := fun p b hb => ⟨hL b (hLmem p b hb).2, ROT.lt hroc b (hLmem p b hb).2, fun _ => (hLmem p b hb).2⟩
    nil := fun p hp => by
      simp only
      split
      · rename_i hpp; subst hpp; exact absurd hp0 (hp _ _ _ _)
      · rfl
    boxd := fun o o' ho => by rw [hbx] at ho; cases ho
    boxi := fun o ho => by rw [hbx] at ho; cases ho
    boxc := fun o cs ho => by rw [hbx] at ho; cases ho
    shape := fun t => ?_
    slot := fun t i c hc => ?_ }
  · cases t with
    | zero =>
      rw [hs0, hg0]
      unfold mutR at hm
      cases b with
      | true =>
        simp at hm
        obtain ⟨us1, us2, rfl, h1, h2⟩ := hm
        exact ⟨us1 ++ u :: us2, by simp, by simp [h1.length, h2.length]⟩
      | false =>
        simp at hm
        obtain ⟨rfl, _⟩ := hm
        exact hone
    | succ t =>
      rw [hss]
      rcases enter_slot h t with h' | ⟨v, hv, hs, _⟩
      · rw [h']; trivial
      · rw [hgs t v hv]; exact hs
  · cases t with
    | zero =>
      rw [hs0] at hc
      rw [hg0]
      have own : CR w S ⟨fun _ => (0, 0), fun p => if p = ⟨false, 0, pre.length⟩ then L else []⟩ σ tm ⟨false, 0, pre.length⟩ (.ow ⟨e, some u⟩ size 0 rs) u := by
        refine ⟨?_, fun v hv => by cases hv; rfl⟩
        show ROT _ _ _ _ _ _ _ (if (⟨false, 0, pre.length⟩ : Pl) = ⟨false, 0, pre.length⟩ then L else [])
        rw [if_pos rfl]; exact hroc
      unfold mutR at hm
      cases b with
      | true =>
        simp at hm
        obtain ⟨us1, us2, rfl, h1, h2⟩ := hm
        have hlen1 := h1.length
        simp only [mutSV, SV.cells] at hc
        show ∃ u', (valCells (.agg _))[i]? = some u' ∧ _
        simp only [valCells, Value.cells]
        rcases Nat.lt_trichotomy i pre.length with hlt | rfl | hgt
        · rw [List.getElem?_append_left (by simpa using hlt), List.getElem?_map, Option.map_eq_some_iff] at hc
          obtain ⟨d, hd, rfl⟩ := hc
          obtain ⟨x, hx, hr⟩ := h1.get hd
          refine ⟨x, ?_, hr⟩
          have : (us1 ++ u :: us2)[i]? = some x := by
            rw [List.getElem?_append_left (by omega)]; exact hx
          simpa using this
        · rw [List.getElem?_append_right (by simp)] at hc
          simp at hc
          subst hc
          refine ⟨u, ?_, own⟩
          simp [hlen1]
        · rw [List.getElem?_append_right (by simp; omega)] at hc
          simp only [List.length_map] at hc
          obtain ⟨j, hj⟩ : ∃ j, i - pre.length = j + 1 := ⟨i - pre.length - 1, by omega⟩
          rw [hj, List.getElem?_cons_succ, List.getElem?_map, Option.map_eq_some_iff] at hc
          obtain ⟨d, hd, rfl⟩ := hc
          obtain ⟨x, hx, hr⟩ := h2.get hd
          refine ⟨x, ?_, hr⟩
          have : (us1 ++ u :: us2)[i]? = some x := by
            rw [List.getElem?_append_right (by omega), ← hlen1, hj, List.getElem?_cons_succ]; exact hx
          simpa using this
      | false =>
        simp at hm
        obtain ⟨rfl, rfl, rfl⟩ := hm
        obtain ⟨rfl, rfl⟩ := one_cell hc
        exact ⟨v0, by revert hone; cases v0 <;> simp [Value.oneCell', valCells, Value.cells], own⟩
    | succ t =>
      rw [hss] at hc
      rcases enter_slot h t with h' | ⟨v, hv, _, hs⟩
      · rw [h'] at hc; simp [SV.cells] at hc
      · obtain ⟨u', hu, d, rfl, hr⟩ := hs i c hc
        rw [hgs t v hv]
        exact ⟨u', hu, hr⟩

theorem FnMu_body {f : FuncId} {fn : Func} {c : Code} {b : Bool} {pre post : List D} {rest : List (Bool × List D)} {e : TypeId} {size : Nat} {rs rs' : List (List D)} {r : Value} (hf : P.funcs[f]? = some fn) (hb : fn.body = some c) (hn : Nat.ble (rest.length + 1) fn.ntmps = true)
    (hok : ∀ r ∈ rs', ∀ d ∈ r, okD 0 d) (hW : ∀ u, W P c (MuQ fn ⟨false, 0, pre.length⟩ (.ow ⟨e, some u⟩ size 0 rs') r) (St.enterM fn.ntmps (mutSV b pre post (.ow ⟨e, some u⟩ size 0 rs)) rest)) : FnMu P f b pre post rest e size rs rs' r := by
  intro w S u v0 vals L hS hroc hL hm hargs
  refine calls_of_wp hf hb ?_
  have hinv := Inv.enterM (n := fn.ntmps) hS hroc hL hm hargs (Nat.le_of_ble_eq_true hn)
  have e0 : (v0 :: vals).toArray ++ Array.replicate (fn.ntmps - (v0 :: vals).toArray.size) undef = (v0 :: vals).toArray ++ Array.replicate (fn.ntmps - (v0 :: vals).length) undef := by simp
  rw [e0]
  refine wp_mono (hW u _ w S _ _ hinv) ?_
  rintro en ⟨tm, df⟩ w' ⟨hd, σ', I', g', ⟨hfin, t, hres, hst, hp⟩, hi⟩
  obtain rfl : df = [] := hd
  have hrun := (run_results (P := P) (fn := fn) (xs := [(false, [(⟨false, t, 0⟩, .d (.v r))])]) hi (by rw [hres]; simp [resOf, hst]))
  obtain ⟨v, hv, _, _, hall⟩ := hrun
  obtain ⟨u1, hu1, hr1⟩ := hall 0 _ rfl
  obtain ⟨rfl, _⟩ := Rd.v.1 hr1
  have hvr : v = u1 := by
    have h1 : v.oneCell' = true := by
      obtain ⟨v2, hv2, hs2, _⟩ := run_results (P := P) (fn := fn) (xs := [(false, [(⟨false, t, 0⟩, .d (.v u1))])]) hi (by rw [hres]; simp [resOf, hst])
      rw [hv] at hv2
      cases hv2
      exact hs2
    revert h1 hu1
    cases v <;> simp [Value.oneCell', valCells, Value.cells]
  subst hvr
  obtain ⟨u2, hu2, hcr⟩ := hi.at hp
  have hu2e : u2 = u := hcr.2 u rfl
  subst hu2e
  have hgrow : w.grownBy w' u2.ownBlock := by
    refine ⟨hi.fr.os, hi.fr.tape, hi.fr.output, hi.fr.size, fun b hb hne => hi.fr.old b hb (fun hbL => hne ?_) fun _ h => h⟩
    obtain ⟨xs, L', _, _, hoc, rfl⟩ := hroc
    obtain ⟨_, rfl⟩ := hoc.im_iff
    have : b ∈ u2.ownBlock.toList := by simpa using hbL
    cases hq : u2.ownBlock with
    | none => rw [hq] at this; cases this
    | some b' => rw [hq] at this; simp at this; rw [this]
  have hrot : ROT (RO w' S 0) w' S e size rs' u2 L := by
    obtain ⟨xs, L', h1, h2, h3, h4⟩ := ROT.okAny (I' := S) hok hcr.1
    obtain ⟨xs0, L0, _, _, hoc0, rfl⟩ := hroc
    obtain ⟨_, rfl⟩ := hoc0.im_iff
    obtain ⟨_, rfl⟩ := h3.im_iff
    exact ⟨xs, [], h1, h2, h3, rfl⟩
  have main : bodyPost P fn (fun en w' => en = .returned v ∧ w.grownBy w' u2.ownBlock ∧ ROT (RO w' S 0) w' S e size rs' u2 L) .ret ⟨tm, []⟩ w' := ⟨rfl, v, hv, rfl, hgrow, hrot⟩
  cases en with
  | normal => exact main
  | ret => exact main
  | _ => cases hfin

/-! ### The call -/
/-- An argument that holds what p owns: alone, or among cells that are read alone. -/
def splitMu (p : Pl) : List C → Option (List D × List D)
  | [] => none
  | .vw q true rs :: r => bif q.beq p then (imAll r).map fun ds => ([], ds) else none
  | c :: r => match c.toIm, splitMu p r with
    | some d, some (a, b) => some (d :: a, b)
    | _, _ => none
theorem splitMu_rel {w : World} {I : Nat → Prop} {g : Gh} {tm : Array Value} {p : Pl} {u : Value} (hu : realAt w g tm p = some u) : ∀ {cs : List C} {pre post : List D} {us : List Value}, splitMu p cs = some (pre, post) → us.length = cs.length → (∀ (j : Nat) (c : C), cs[j]? = some c → ∃ u, us[j]? = some u ∧ ∀ pl, CR w I g σ tm pl c u) →
    ∃ us1 us2, us = us1 ++ u :: us2 ∧ All2 (Rd w I) pre us1 ∧ All2 (Rd w I) post us2
  | [], _, _, _, h, _, _ => by simp [splitMu] at h
  | c :: r, pre, post, [], _, hl, _ => by simp at hl
  | c :: r, pre, post, x :: us, h, hl, hc => by
    have htail : ∀ (j : Nat) (c : C), r[j]? = some c → ∃ u, us[j]? = some u ∧ ∀ pl, CR w I g σ tm pl c u := fun j c' hj => by
      obtain ⟨v, hv, hr⟩ := hc (j + 1) c' (by simpa using hj)
      exact ⟨v, by simpa using hv, hr⟩
    obtain ⟨x', hx', hcx⟩ := hc 0 c rfl
    simp at hx'
    subst hx'
    have other : ∀ {d : D} {a b : List D}, c.toIm = some d → splitMu p r = some (a, b) → pre = d :: a ∧ post = b → ∃ us1 us2, x :: us = us1 ++ u :: us2 ∧ All2 (Rd w I) pre us1 ∧ All2 (Rd w I) post us2 := by
      rintro d a b h1 h2 ⟨rfl, rfl⟩
      obtain ⟨us1, us2, rfl, ha, hb⟩ := splitMu_rel hu h2 (by simpa using hl) htail
      have hd : All2 (Rd w I) [d] [x] := imAll_rel (pl := ⟨false, 0, 0⟩) (g := g) (σ := σ) (tm := tm) (cs := [c]) (by simp [imAll, h1]) rfl fun j c' hj => by
        cases j with
        | zero => simp at hj; subst hj; exact ⟨x, rfl, hcx _⟩
        | succ j => simp at hj
      exact ⟨x :: us1, us2, rfl, ⟨hd.1, ha⟩, hb⟩
    have gen : (∀ q rs, c ≠ .vw q true rs) → ∃ us1 us2, x :: us = us1 ++ u :: us2 ∧ All2 (Rd w I) pre us1 ∧ All2 (Rd w I) post us2 := by
      intro hne
      have h' : (match c.toIm, splitMu p r with
        | some d, some (a, b) => some (d :: a, b)
        | _, _ => none) = some (pre, post) := by
        unfold splitMu at h
        split at h
        · rename_i heq; cases heq
        · rename_i q rs r' heq; cases heq; exact absurd rfl (hne q rs)
        · rename_i heq; cases heq; exact h
      cases h1 : c.toIm with
      | none => simp [h1] at h'
      | some d =>
        cases h2 : splitMu p r with
        | none => simp [h1, h2] at h'
        | some ab =>
          obtain ⟨a, b⟩ := ab
          simp [h1, h2] at h'
          exact other h1 h2 ⟨h'.1.symm, h'.2.symm⟩
    by_cases hv : ∃ q rs, c = .vw q true rs
    · obtain ⟨q, rs, rfl⟩ := hv
      simp only [splitMu] at h
      cases hq : q.beq p with
      | false => rw [hq] at h; cases h
      | true =>
        rw [hq] at h
        simp only [cond_true, Option.map_eq_some_iff] at h
        obtain ⟨ds, hds, hh⟩ := h
        cases hh
        obtain rfl := Pl.beq_iff.1 hq
        obtain ⟨h1, _⟩ := (hcx ⟨false, 0, 0⟩).2 rfl
        rw [hu] at h1
        obtain rfl := Option.some.inj h1
        exact ⟨[], us, rfl, trivial, imAll_rel (pl := ⟨false, 0, 0⟩) (g := g) (σ := σ) (tm := tm) hds (by simpa using hl) fun j c' hj => by obtain ⟨v, hv, hr⟩ := htail j c' hj; exact ⟨v, hv, hr _⟩⟩
    · exact gen fun q rs h => hv ⟨q, rs, h⟩
def SV.isAg : SV → Bool
  | .ag _ => true
  | _ => false

theorem op_call_mu {o : Oper} {t : Nat} {f : FuncId} {x : Operand} {xs : List Operand} {tys : Array TypeId} {fn : Func} {p : Pl} {e : Tag} {size : Nat} {rs rs' : List (List D)} {s : SV} {cs : List C} {pre post : List D} {rest : List (Bool × List D)} {r : Value} {N : St → Prop}
    (ho : o.op = .call { callee := .value (.func f), args := (x :: xs).toArray, argTypes := tys }) (hd : o.dst = some t) (ht : Nat.blt t σ.n = true) (h0 : ((σ.upd p e size 0 rs').slots t).noOw = true)
    (hf : P.funcs[f]? = some fn) (hb : fn.body.isSome = true) (hnm : (fn.name == "runtime.NumGoroutine") = false) (hx : σ.evv x = s) (hfl : s.flat = some cs) (hsp : splitMu p cs = some (pre, post)) (hp : σ.absAt p = some (.ow e size 0 rs))
    (hargs : xs.mapM (fun x => (σ.evv x).toA) = some rest) (him : xs.all (fun x => (σ.evv x).cells.all C.imB) = true) (hlen : rs'.length = rs.length) (hr : scal r = true) (hF : FnMu P f s.isAg pre post rest e.ty size rs rs' r) (hN : N ((σ.upd p e size 0 rs').put t (.one (.d (.v r))))) : OpW P o N σ := by
  intro K w I g tm hi
  rw [run_callFn (xs := x :: xs) ho hf hb hnm]
  simp only [Oper.upon]
  obtain ⟨u, hu, hcr⟩ := hi.at hp
  obtain ⟨h1, h2⟩ := hi.evv x hx
  obtain ⟨q1, q2⟩ := shape_cells hfl h1
  have hus : ∃ us1 us2, (Act.eval ⟨tm, []⟩ x).cells.toList = us1 ++ u :: us2 ∧ All2 (Rd w I) pre us1 ∧ All2 (Rd w I) post us2 := by
    refine splitMu_rel (σ := σ) hu hsp q2 fun j c hj => ?_
    obtain ⟨_, v, hv, hrr⟩ := h2 j c (by rw [flat_cells hfl]; exact hj)
    rw [q1] at hv
    exact ⟨v, hv, hrr⟩
  obtain ⟨us1, us2, huse, hpre, hpost⟩ := hus
  have hm : mutR w I s.isAg pre post u (Act.eval ⟨tm, []⟩ x) := by
    unfold mutR
    cases s with
    | ag cs' =>
      obtain ⟨us, hus, _⟩ := h1
      rw [if_pos (show (SV.ag cs').isAg = true from rfl)]
      refine ⟨us1, us2, ?_, hpre, hpost⟩
      rw [hus] at huse ⊢
      simp only [Value.cells] at huse
      rw [huse]
    | one c =>
      rw [if_neg (by simp [SV.isAg])]
      have hone : (Act.eval ⟨tm, []⟩ x).oneCell' = true := h1
      have : (Act.eval ⟨tm, []⟩ x).cells.toList = [Act.eval ⟨tm, []⟩ x] := by revert hone; cases Act.eval ⟨tm, []⟩ x <;> simp [Value.oneCell', Value.cells]
      rw [this] at huse
      have hl := congrArg List.length huse
      simp at hl
      have e1 : us1 = [] := List.eq_nil_of_length_eq_zero (by omega)
      have e2 : us2 = [] := List.eq_nil_of_length_eq_zero (by omega)
      subst e1
      subst e2
      simp at huse
      refine ⟨huse, ?_, ?_⟩
      · cases pre with
        | nil => rfl
        | cons => exact hpre.elim
      · cases post with
        | nil => rfl
        | cons => exact hpost.elim
    | _ => simp [SV.flat] at hfl
  have hrest : All2 (argR w I) rest (xs.map (Act.eval ⟨tm, []⟩)) := args_all hargs fun y hy a ha => argR_of hi ha fun pl c v d hcm hc hcd => by
    have hm := List.all_eq_true.1 (List.all_eq_true.1 him y hy) c hcm
    cases c with
    | d z => simp [C.toD] at hcd; subst hcd; exact hc
    | nl => simp [C.toD] at hcd; subst hcd; exact Rd.sl_iff.2 ⟨none, 0, hc, Nat.le_refl _, Nat.zero_le _, fun i row hr => by simp at hr⟩
    | _ => simp [C.imB] at hm
  have hcall := hF w I u (Act.eval ⟨tm, []⟩ x) (xs.map (Act.eval ⟨tm, []⟩)) (g.L p) (fun b hb => (hi.immX b hb).1) hcr.1 (fun b hb => (hi.own p b hb).1) hm hrest
  refine Calls.mono hcall ?_
  rintro en w' ⟨rfl, hg, hrot⟩
  have hinv := hi.restore (rs' := rs') hp (b0 := u.ownBlock) (fun b hb => by
    obtain ⟨xs, L', _, _, hoc, hL⟩ := hcr.1
    rw [hL]; simp [hb]) hg (fun u' hu' => by rw [hu] at hu'; cases hu'; exact hrot) hlen
  simp only [Act.put, hd]
  refine ⟨trivial, _, I, g, hN, hinv.put (by rw [show (σ.upd p e size 0 rs').n = σ.n from map_setP_n ..]; exact Nat.le_of_ble_eq_true ht) h0 ?_ fun i c hc => ?_⟩
  · revert hr; cases r <;> simp [scal, ShapeOK, Value.oneCell']
  · obtain ⟨rfl, rfl⟩ := one_cell hc
    refine ⟨r, ?_, Rd.v.2 ⟨rfl, hr⟩⟩
    revert hr
    cases r <;> simp [scal, valCells, Value.cells]

end Go.AX
