/- Parts of tuples; sub-slices; struct and slice literals; make; append. -/
import Derived.Test.YtbebnlhgnbnjoaaAxWalk
import Derived.Laws.OwnMore
import Derived.Great.FillDense
import Derived.Laws.Slices
namespace Go.AX

variable {P : Program} {σ : St}

/-! ### A part of a tuple -/
def extractS (t : Nat) : Nat → List (Bool × List C) → Nat → Option SV
  | _, [], _ => none
  | off, (b, cs) :: _, 0 => match b, cs with
    | true, cs => some (.ag (asViews false t off cs))
    | false, [c] => some (.one (c.asView ⟨false, t, off⟩))
    | false, _ => none
  | off, x :: r, i + 1 => extractS t (off + x.2.length) r i

theorem op_extract {o : Oper} {t x i : Nat} {xs : List (Bool × List C)} {s : SV} {N : St → Prop} (ho : o.op = .extract (.tmp x) i) (hd : o.dst = some t) (ht : Nat.blt t σ.n = true) (h0 : (σ.slots t).noOw = true)
    (hx : σ.slots x = .tu xs) (he : extractS x 0 xs i = some s) (hN : N (σ.put t s)) : OpW P o N σ := by
  refine OpW_put hd ht h0 (fun K w I g tm hi => ?_) hN
  have hsh := hi.shape x
  have hsl := hi.slot x
  rw [hx] at hsh hsl
  obtain ⟨vs, hvs, hall⟩ := hsh
  have hev : Act.eval ⟨tm, []⟩ (.tmp x) = .tuple vs.toArray := hvs
  rw [hvs] at hsl
  have hab : ∀ (j : Nat) (c : C), (SV.tu xs).cells[j]? = some c → σ.absAt ⟨false, x, j⟩ = some c := fun j c hj => by simp [St.absAt, hx, hj]
  have hre : ∀ (j : Nat) (u : Value), (valCells (.tuple vs.toArray))[j]? = some u → realAt w g tm ⟨false, x, j⟩ = some u := fun j u hu => by
    unfold realAt; rw [if_neg (by simp)]
    show (valCells (tm.getD x undef))[j]? = some u
    rw [hvs]; exact hu
  have key : ∀ (xs : List (Bool × List C)) (vs : List Value) (i off : Nat) (s : SV), extractS x off xs i = some s → All2 (fun x v => if x.1 = true then ∃ us : List Value, v = .agg us.toArray ∧ us.length = x.2.length else v.oneCell' = true ∧ x.2.length = 1) xs vs →
      (∀ (j : Nat) (c : C), (xs.flatMap (·.2))[j]? = some c → ∃ u, (vs.flatMap fun v => v.cells.toList)[j]? = some u ∧ ∀ pl, CR w I g σ tm pl (c.asView ⟨false, x, off + j⟩) u) →
      ∃ v, vs[i]? = some v ∧ ShapeOK s v ∧ ∀ (j : Nat) (c : C), s.cells[j]? = some c → ∃ u, (valCells v)[j]? = some u ∧ CR w I g σ tm ⟨false, t, j⟩ c u := by
    intro xs
    induction xs with
    | nil => intro vs i off s h; simp [extractS] at h
    | cons y ys ih =>
      intro vs i off s h hall hc
      cases vs with
      | nil => exact hall.elim
      | cons v vs =>
        have h1 : if y.1 = true then ∃ us : List Value, v = .agg us.toArray ∧ us.length = y.2.length else v.oneCell' = true ∧ y.2.length = 1 := hall.1
        have hlen : v.cells.toList.length = y.2.length := by
          split at h1
          · obtain ⟨us, rfl, hl⟩ := h1; simpa [Value.cells] using hl
          · rw [h1.2]; have := h1.1; revert this; cases v <;> simp [Value.oneCell', Value.cells]
        cases i with
        | succ i =>
          obtain ⟨v', hv', hr⟩ := ih vs i (off + y.2.length) s (by simpa [extractS] using h) hall.2 fun j c hj => by
            obtain ⟨u, hu, hcr⟩ := hc (y.2.length + j) c (by
              rw [List.flatMap_cons, List.getElem?_append_right (by omega), Nat.add_sub_cancel_left]; exact hj)
            refine ⟨u, ?_, fun pl => by rw [show off + y.2.length + j = off + (y.2.length + j) by omega]; exact hcr pl⟩
            rw [List.flatMap_cons, List.getElem?_append_right (by omega), hlen, Nat.add_sub_cancel_left] at hu
            exact hu
          exact ⟨v', by simpa using hv', hr⟩
        | zero =>
          have hcell : ∀ (j : Nat) (c : C), y.2[j]? = some c → ∃ u, v.cells.toList[j]? = some u ∧ ∀ pl, CR w I g σ tm pl (c.asView ⟨false, x, off + j⟩) u := by
            intro j c hj
            have hlt := (List.getElem?_eq_some_iff.1 hj).1
            obtain ⟨u, hu, hcr⟩ := hc j c (by rw [List.flatMap_cons, List.getElem?_append_left hlt]; exact hj)
            rw [List.flatMap_cons, List.getElem?_append_left (by omega)] at hu
            exact ⟨u, hu, hcr⟩
          rcases y with ⟨b, cs⟩
          cases b with
          | true =>
            simp only [extractS, Option.some.injEq] at h
            subst h
            simp only [if_true] at h1
            obtain ⟨us, rfl, hl⟩ := h1
            refine ⟨_, rfl, ⟨us, rfl, by rw [asViews_len]; exact hl⟩, fun j c hj => ?_⟩
            obtain ⟨c0, h0, rfl⟩ := asViews_get hj
            obtain ⟨u, hu, hcr⟩ := hcell j c0 h0
            exact ⟨u, by simpa [valCells, Value.cells] using hu, hcr _⟩
          | false =>
            match cs, h, h1, hcell with
            | [c], h, h1, hcell =>
              simp only [extractS, Option.some.injEq] at h
              subst h
              simp at h1
              refine ⟨v, rfl, h1, fun j c' hj => ?_⟩
              obtain ⟨rfl, rfl⟩ := one_cell hj
              obtain ⟨u, hu, hcr⟩ := hcell 0 c rfl
              refine ⟨u, ?_, hcr _⟩
              revert h1 hu
              cases v <;> simp [Value.oneCell', valCells, Value.cells]
            | [], h, _, _ => simp [extractS] at h
            | _ :: _ :: _, h, _, _ => simp [extractS] at h
  obtain ⟨v, hv, hs, hc⟩ := key xs vs i 0 s he hall fun j c hj => by
    obtain ⟨u, hu, hcr⟩ := hsl j c hj
    have hu' : (vs.flatMap fun v => v.cells.toList)[j]? = some u := by simpa [valCells] using hu
    refine ⟨u, hu', fun pl => ?_⟩
    rw [Nat.zero_add]
    exact hcr.view (hre j u hu) (hab j c hj)
  refine ⟨v, ?_, hs, hc⟩
  simp [execOp, ho, hev, Instr.extract, hv]

/-! ### Sub-slices -/
/-- A bound: left out, or a whole number. -/
def bndV (σ : St) : Option Operand → Option (Option Int)
  | none => some none
  | some x => match σ.ev x with
    | .one (.d (.v (.int _ i))) => some (some i)
    | _ => none
theorem Rd.sl_sub {w : World} {S : Nat → Prop} {rs : List (List D)} {a : Option Addr} {len cap l h size : Nat} (hr : Rd w S (.sl rs) (.slice a len cap)) (hlh : l ≤ h) (hh : h ≤ rs.length) (hs : ∀ r ∈ rs, r.length = size) :
    Rd w S (.sl ((rs.take h).drop l)) (sliced a l h cap size) := by
  obtain ⟨A, cap', e, h1, h2, h3⟩ := Rd.sl_iff.1 hr
  cases e
  rw [Rd.sl_iff]
  unfold sliced
  have hlen : ((rs.take h).drop l).length = h - l := by simp; omega
  refine ⟨_, cap - l, by rw [hlen], by omega, by omega, fun i row hrow => ?_⟩
  rw [List.getElem?_drop, List.getElem?_take] at hrow
  split at hrow
  · obtain ⟨b, o, vs, rfl, hc, hall⟩ := h3 _ row hrow
    have hrl := hs row (List.mem_of_getElem? hrow)
    refine ⟨b, o + l * size, vs, ?_, ⟨hc.1, fun j u hu => ?_⟩, hall⟩
    · rw [if_neg (by omega)]; simp [addr_add]
    · have := hc.2 j u hu
      rw [hrl, Nat.add_mul] at this
      rw [hrl, show o + l * size + i * size + j = o + (l * size + i * size) + j by omega]
      exact this
  · cases hrow

theorem run_sliceB {t e : TypeId} {size : Nat} (ht : P.underlying t = some (.slice e)) (hs : sizeB P e = some size) {σ : St} {K : Ctx} {w : World} {I : Nat → Prop} {g : Gh} {tm : Array Value} (hi : Inv K w I g σ tm) {lo hi' : Option Operand} {l h : Option Int} (hl : bndV σ lo = some l) (hh : bndV σ hi' = some h)
    (a : Option Addr) (len cap : Nat) (hlc : len ≤ cap) (h0 : 0 ≤ l.getD 0) (h1 : l.getD 0 ≤ h.getD len) (h2 : h.getD len ≤ len) :
    (Instr.sliceAt t (.slice a len cap) (lo.map (Act.eval ⟨tm, []⟩)) (hi'.map (Act.eval ⟨tm, []⟩)) none).run P w = .ok (sliced a (l.getD 0).toNat (h.getD len).toNat cap size) w := by
  have hel : P.elem t = e := by simp [Program.elem, ht]
  have ht' : P.underlying t = some (.slice (P.elem t)) := by rw [hel]; exact ht
  have hsz : (sizeOf (P.elem t)).run P w = .ok size w := by rw [hel]; exact run_sizeB hs w
  have ev : ∀ (x : Operand) (q : Option Int), bndV σ (some x) = some q → ∃ k i, q = some i ∧ Act.eval ⟨tm, []⟩ x = .int k i := by
    intro x q hq
    unfold bndV at hq
    simp only at hq
    split at hq
    · rename_i k i he
      cases hq
      exact ⟨k, i, rfl, hi.ev_v he⟩
    · cases hq
  rw [run_sliceAt_slice _ _ _ _ _ _ ht']
  cases lo with
  | none =>
    cases hl
    cases hi' with
    | none =>
      cases hh
      simp [run_slice_all _ _ _ _ _ ht', hsz]
    | some x =>
      obtain ⟨k, i, rfl, he⟩ := ev x h hh
      simp at h1 h2 ⊢
      rw [he, run_slice_h _ _ _ _ _ ht' k i (by omega) (by omega), hsz]
      simp
  | some y =>
    obtain ⟨k', j, rfl, he'⟩ := ev y l hl
    cases hi' with
    | none =>
      cases hh
      simp at h0 h1 ⊢
      rw [he', run_slice_l _ _ _ _ _ ht' k' j h0 (by omega), hsz]
      simp
    | some x =>
      obtain ⟨k, i, rfl, he⟩ := ev x h hh
      simp at h0 h1 h2 ⊢
      rw [he', he, run_slice_lh _ _ _ _ _ ht' k' k j i h0 h1 (by omega), hsz]
      simp

theorem op_slice_d {o : Oper} {t size : Nat} {ty e : TypeId} {x : Operand} {lo hi : Option Operand} {rs : List (List D)} {l h : Option Int} {N : St → Prop} (ho : o.op = .slice ty x lo hi none) (hd : o.dst = some t) (ht : Nat.blt t σ.n = true) (h0 : (σ.slots t).noOw = true)
    (hty : P.underlying ty = some (.slice e)) (hs : sizeB P e = some size) (hx : σ.ev x = .one (.d (.sl rs))) (hl : bndV σ lo = some l) (hh : bndV σ hi = some h) (hrs : ∀ r ∈ rs, r.length = size)
    (hb0 : 0 ≤ l.getD 0) (hb1 : l.getD 0 ≤ h.getD rs.length) (hb2 : h.getD rs.length ≤ rs.length) (hN : N (σ.put t (.one (.d (.sl ((rs.take (h.getD rs.length).toNat).drop (l.getD 0).toNat)))))) : OpW P o N σ := by
  refine OpW_put hd ht h0 (fun K w I g tm hi' => ?_) hN
  obtain ⟨pl, hr, _, _⟩ := hi'.ev_one hx
  obtain ⟨A, cap, hu, h1, h2, _⟩ := Rd.sl_iff.1 hr
  have hrun := run_sliceB hty hs hi' hl hh A rs.length cap h1 hb0 hb1 hb2 (P := P)
  rw [← hu] at hrun
  have hr' : Rd w I (.sl rs) (.slice A rs.length cap) := by rw [← hu]; exact hr
  have hsub := hr'.sl_sub (l := (l.getD 0).toNat) (h := (h.getD rs.length).toNat) (by omega) (by omega) hrs
  refine ⟨_, ?_, Rd.oneCell hsub, fun i c hc => ?_⟩
  · simp [execOp, ho, hrun]
  · obtain ⟨rfl, rfl⟩ := one_cell hc
    exact ⟨_, by simp [sliced, valCells, Value.cells], hsub⟩
theorem op_slice_vw {o : Oper} {t size : Nat} {ty e : TypeId} {x : Operand} {lo hi : Option Operand} {p : Pl} {wh : Bool} {rs : List (List D)} {l h : Option Int} {N : St → Prop} (ho : o.op = .slice ty x lo hi none) (hd : o.dst = some t) (ht : Nat.blt t σ.n = true) (h0 : (σ.slots t).noOw = true)
    (hty : P.underlying ty = some (.slice e)) (hs : sizeB P e = some size) (hx : σ.evv x = .one (.vw p wh rs)) (hl : bndV σ lo = some l) (hh : bndV σ hi = some h) (hrs : ∀ r ∈ rs, r.length = size)
    (hb0 : 0 ≤ l.getD 0) (hb1 : l.getD 0 ≤ h.getD rs.length) (hb2 : h.getD rs.length ≤ rs.length) (hN : N (σ.put t (.one (.vw p false ((rs.take (h.getD rs.length).toNat).drop (l.getD 0).toNat))))) : OpW P o N σ := by
  refine OpW_put hd ht h0 (fun K w I g tm hi' => ?_) hN
  obtain ⟨hsh, hcs⟩ := hi'.evv x hx
  obtain ⟨_, u, hu, hr⟩ := hcs 0 _ rfl
  have hone : (Act.eval ⟨tm, []⟩ x).oneCell' = true := hsh
  have hv : valCells (Act.eval ⟨tm, []⟩ x) = [Act.eval ⟨tm, []⟩ x] := by
    revert hone
    cases Act.eval ⟨tm, []⟩ x <;> simp [Value.oneCell', valCells, Value.cells]
  rw [hv] at hu
  simp at hu
  have hr := (hr ⟨false, 0, 0⟩).1
  rw [← hu] at hr
  obtain ⟨A, cap, hu, h1, h2, _⟩ := Rd.sl_iff.1 hr
  have hrun := run_sliceB hty hs hi' hl hh A rs.length cap h1 hb0 hb1 hb2 (P := P)
  rw [← hu] at hrun
  rw [hu] at hr
  have hsub := hr.sl_sub (l := (l.getD 0).toNat) (h := (h.getD rs.length).toNat) (by omega) (by omega) hrs
  refine ⟨_, ?_, Rd.oneCell hsub, fun i c hc => ?_⟩
  · simp [execOp, ho, hrun]
  · obtain ⟨rfl, rfl⟩ := one_cell hc
    exact ⟨_, by simp [sliced, valCells, Value.cells], hsub, by simp⟩

/-! ### Literals -/
def fillC (place : Nat → Option (Nat × Nat)) (cells : List C) : List (Nat × List C) → Option (List C)
  | [] => some cells
  | (i, cs) :: rest => match place i with
    | none => none
    | some (off, size) => bif Nat.beq cs.length size && Nat.ble (off + size) cells.length then fillC place (cells.take off ++ cs ++ cells.drop (off + size)) rest else none

/-- Cells as told and as they are. -/
def CellsR (R : C → Value → Prop) (cs : List C) (us : Array Value) : Prop := us.size = cs.length ∧ ∀ (j : Nat) (c : C), cs[j]? = some c → ∃ u, us[j]? = some u ∧ R c u
theorem splice_get {α : Type} {l m : List α} {off k : Nat} (h : off + m.length ≤ l.length) : (l.take off ++ m ++ l.drop (off + m.length))[k]? = if off ≤ k ∧ k < off + m.length then m[k - off]? else l[k]? := by
  have hlt : (l.take off).length = off := by simp; omega
  by_cases hk : off ≤ k ∧ k < off + m.length
  · rw [if_pos hk, List.append_assoc, List.getElem?_append_right (by omega), hlt, List.getElem?_append_left (by omega)]
  · rw [if_neg hk]
    by_cases h2 : k < off
    · rw [List.append_assoc, List.getElem?_append_left (by omega), List.getElem?_take, if_pos h2]
    · rw [List.getElem?_append_right (by simp; omega), List.getElem?_drop]
      congr 1
      simp only [List.length_append, hlt]
      omega
theorem fill_rel {R : C → Value → Prop} {place : Nat → Option (Nat × Nat)} : ∀ {parts : List (Nat × List C)} {vals : List (Nat × Value)} {cs r : List C} {us : Array Value}, fillC place cs parts = some r → CellsR R cs us →
    All2 (fun p v => p.1 = v.1 ∧ CellsR R p.2 v.2.cells) parts vals → ∃ us', Instr.fill place us vals = some us' ∧ CellsR R r us'
  | [], [], cs, r, us, h, hc, _ => by
    simp [fillC] at h
    subst h
    exact ⟨us, rfl, hc⟩
  | (i, ps) :: parts, (i', v) :: vals, cs, r, us, h, hc, ha => by
    obtain ⟨⟨hi, hps⟩, ha⟩ := ha
    simp only at hi hps
    subst hi
    unfold fillC at h
    unfold Instr.fill
    cases hp : place i with
    | none => simp [hp] at h
    | some os =>
      obtain ⟨off, size⟩ := os
      simp only [hp] at h ⊢
      cases hq : (Nat.beq ps.length size && Nat.ble (off + size) cs.length) with
      | false => rw [hq] at h; cases h
      | true =>
        rw [hq] at h
        simp only [cond_true] at h
        obtain ⟨q1, q2⟩ := Bool.and_eq_true_iff.1 hq
        have q1 := Nat.eq_of_beq_eq_true q1
        have q2 := Nat.le_of_ble_eq_true q2
        subst q1
        rw [if_neg (by rw [hps.1, hc.1]; simp; omega)]
        have hz : v.cells.zipIdx.foldl (fun cs (x : Value × Nat) => cs.setIfInBounds (off + x.2) x.1) us = (v.cells.toList.zipIdx 0).foldl (fun cs (x : Value × Nat) => cs.setIfInBounds (off + x.2) x.1) us := by
          rw [← Array.foldl_toList, Array.toList_zipIdx]
        obtain ⟨f1, f2⟩ := Go.Great.foldl_set off v.cells.toList 0 us
        have hz' : (v.cells.zipIdx.foldl (fun cs x => match x with | (c, j) => cs.setIfInBounds (off + j) c) us) = (v.cells.toList.zipIdx 0).foldl (fun cs (x : Value × Nat) => cs.setIfInBounds (off + x.2) x.1) us := hz
        rw [hz']
        refine fill_rel h ⟨?_, fun j c hj => ?_⟩ ha
        · rw [f1, hc.1]
          simp only [List.length_append, List.length_take, List.length_drop]
          omega
        · have hvl : v.cells.toList.length = ps.length := by simpa using hps.1
          rw [splice_get q2] at hj
          rw [f2 j]
          simp only [Nat.add_zero, hvl]
          split at hj
          · rename_i hr
            rw [if_pos ⟨hr.1, hr.2, by rw [hc.1]; omega⟩]
            obtain ⟨u, hu, hcr⟩ := hps.2 _ c hj
            exact ⟨u, by simpa using hu, hcr⟩
          · rename_i hr
            rw [if_neg (fun hh => hr ⟨hh.1, hh.2.1⟩)]
            exact hc.2 j c hj
  | [], _ :: _, _, _, _, _, _, h => h.elim
  | _ :: _, [], _, _, _, _, _, h => h.elim

end Go.AX
