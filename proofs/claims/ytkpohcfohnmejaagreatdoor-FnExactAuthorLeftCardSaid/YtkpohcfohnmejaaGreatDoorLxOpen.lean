/- What the statements say of arguments, told as typed data. -/
import Derived.Test.YtkpohcfohnmejaaGreatDoorLxCopy
import Derived.Deep.Slices
import Derived.ChangeArms
import Derived.DataReads
import Derived.ChangeOld
import Derived.WideShapes
set_option linter.unusedVariables false
set_option linter.unusedSimpArgs false
namespace Go.LX

variable {P : Program} {H : Type} {enc : TypeId × Value → H} {w : World} {base : Nat} {spare : Nat → Bool} {held : Bool}

def fldL (P : Program) (g : TypeId → Option Ty) : Nat → List Field → Option (List Ty)
  | _, [] => some []
  | off, f :: r => match g f.type with
    | some t => bif Nat.beq f.offset off && Nat.beq (P.cellsOf f.type) t.w then (match fldL P g (off + t.w) r with
      | some ts => some (t :: ts)
      | none => none) else none
    | none => none
/-- A type's data, its layout looked at. -/
def tyL (P : Program) : Nat → TypeId → Option Ty
  | 0, _ => none
  | n + 1, e => match P.underlying e with
    | some (.int .u8) => some .u8
    | some (.int k) => some (.i k)
    | some .bool => some .bo
    | some .string => some .st
    | some (.slice e') => match tyL P n e' with
      | some t => bif Nat.beq (P.cellsOf e') t.w && Nat.blt 0 t.w then some (.sl t) else none
      | none => none
    | some (.struct fs) => match fldL P (tyL P n) 0 fs.toList with
      | some ts => bif Nat.beq (P.cellsOf e) (prs ts).w then some (prs ts) else none
      | none => none
    | _ => none
/-- Every number of a datum is one of its kind. -/
def WfT : (t : Ty) → t.T → Prop
  | .i k, n => (Lit.int k n).wf = true
  | .u8, _ | .bo, _ | .un, _ => True
  | .st, s => List.length (α := UInt8) s ≤ maxLen
  | .sl e, xs => List.length (α := e.T) xs ≤ maxLen ∧ ∀ x : e.T, x ∈ (xs : List e.T) → WfT e x
  | .pr a b, x => WfT a x.1 ∧ WfT b x.2

def Opened (w : World) (t : Ty) (cs : List Value) : Prop := ∃ y : t.T, RT w (fun b => b < w.heap.size) t y cs ∧ WfT t y

theorem prs_w : ∀ {t : Ty} {ts : List Ty}, (prs (t :: ts)).w = t.w + (prs ts).w
  | t, [] => rfl
  | t, t' :: ts => rfl
theorem open_fields {fuel : Nat} {cs : List Value} {g : TypeId → Option Ty} (hg : ∀ ty t, g ty = some t → ∀ (cs : List Value) (x : DataW H × List MemPlace), DataW.trod enc P w base spare held fuel ty cs = some x → Opened w t cs) :
    ∀ {fs : List Field} {ts : List Ty} {off : Nat}, fldL P g off fs = some ts → cs.length = off + (prs ts).w → (∀ f ∈ fs, ∃ x, DataW.trod enc P w base spare held fuel f.type ((cs.drop f.offset).take (P.cellsOf f.type)) = some x) → Opened w (prs ts) (cs.drop off)
  | [], ts, off, h, hl, _ => by
    cases h
    exact ⟨(), List.eq_nil_of_length_eq_zero (by simp [prs, Ty.w] at hl; simp; omega), trivial⟩
  | f :: r, ts, off, h, hl, hx => by
    unfold fldL at h
    split at h
    · rename_i t hgt
      cases hb : (Nat.beq f.offset off && Nat.beq (P.cellsOf f.type) t.w) with
      | false => rw [hb] at h; cases h
      | true =>
        rw [hb] at h
        simp only [cond_true] at h
        obtain ⟨b1, b2⟩ := Bool.and_eq_true_iff.1 hb
        have b1 := Nat.eq_of_beq_eq_true b1
        have b2 := Nat.eq_of_beq_eq_true b2
        split at h
        · rename_i ts' hts
          cases h
          rw [prs_w] at hl
          obtain ⟨x, hx0⟩ := hx f (by simp)
          rw [b1, b2] at hx0
          obtain ⟨y, hy1, hy2⟩ := hg _ _ hgt _ _ hx0
          have hcut : cs.drop off = (cs.drop off).take t.w ++ cs.drop (off + t.w) := by
            rw [← List.drop_drop, List.take_append_drop]
          cases ts' with
          | nil =>
            have : cs.drop off = (cs.drop off).take t.w := by
              rw [List.take_of_length_le]; simp [prs, Ty.w] at hl; simp; omega
            rw [this]
            exact ⟨y, hy1, hy2⟩
          | cons t1 ts1 =>
            obtain ⟨z, hz1, hz2⟩ := open_fields hg hts (by omega) fun f hf => hx f (by simp [hf])
            exact ⟨(y, z), ⟨_, _, hcut, hy1, hz1⟩, hy2, hz2⟩
        · cases h
    · cases h
theorem open_ty : ∀ {n : Nat} {ty : TypeId} {t : Ty}, tyL P n ty = some t → ∀ {fuel : Nat} {cs : List Value} {x : DataW H × List MemPlace}, DataW.trod enc P w base spare held fuel ty cs = some x → Opened w t cs
  | 0, _, _, h, _, _, _, _ => by cases h
  | n + 1, ty, t, h, fuel, cs, x, hx => by
    unfold tyL at h
    split at h
    · rename_i hu
      cases h
      obtain ⟨m, rfl, _, hw⟩ := DataW.trod_int hu hx
      simp [Lit.wf, IntKind.min, IntKind.max, IntKind.signed, IntKind.bits] at hw
      exact ⟨toB m, by show [_] = [_]; rw [toB_of hw.1 (by omega)], trivial⟩
    · rename_i k hk hu
      cases h
      obtain ⟨m, rfl, _, hw⟩ := DataW.trod_int hu hx
      exact ⟨m, rfl, hw⟩
    · rename_i hu
      cases h
      obtain ⟨b, rfl, _⟩ := DataW.trod_bool hu hx
      exact ⟨b, rfl, trivial⟩
    · rename_i hu
      cases h
      obtain ⟨s, rfl, _, hs⟩ := DataW.trod_string hu hx
      exact ⟨s.data.toList, by show [_] = [strV _]; simp [strV], by show List.length s.data.toList ≤ maxLen; rw [Array.length_toList]; exact hs⟩
    · rename_i e' hu
      split at h
      · rename_i t' ht'
        cases hb : (Nat.beq (P.cellsOf e') t'.w && Nat.blt 0 t'.w) with
        | false => rw [hb] at h; cases h
        | true =>
          rw [hb] at h
          cases h
          obtain ⟨b1, b2⟩ := Bool.and_eq_true_iff.1 hb
          have b1 := Nat.eq_of_beq_eq_true b1
          have b2 := Nat.le_of_ble_eq_true b2
          rcases Go.Deep.open_slice hu hx with ⟨rfl, _⟩ | ⟨a, len, cap, m, k, D, Pl, rfl, _, hlc, hcm, hm, _, hel⟩
          · exact ⟨([] : List t'.T), ⟨none, 0, rfl, Nat.le_refl _, Nat.zero_le _, fun i x hx => by simp at hx⟩, Nat.zero_le _, fun x hx => by simp at hx⟩
          · have hlm : len ≤ m := by rw [hm]; split <;> omega
            rw [b1] at hel
            have hone : ∀ i, i < len → ∃ y : t'.T, ∃ cs', w.cells? base (a.add (i * t'.w)) t'.w = some cs' ∧ RT w (fun b => b < w.heap.size) t' y cs' ∧ WfT t' y := fun i hi => by
              obtain ⟨cs', h1, h2⟩ := hel i (by omega)
              obtain ⟨y, q1, q2⟩ := open_ty ht' h2
              exact ⟨y, cs', h1, q1, q2⟩
            let Y : Nat → t'.T := fun i => if hi : i < len then Classical.choose (hone i hi) else dflt t'
            have hY : ∀ i, i < len → ∃ cs', w.cells? base (a.add (i * t'.w)) t'.w = some cs' ∧ RT w (fun b => b < w.heap.size) t' (Y i) cs' ∧ WfT t' (Y i) := fun i hi => by
              have := Classical.choose_spec (hone i hi)
              simpa only [Y, dif_pos hi] using this
            refine ⟨(List.range len).map Y, ⟨some a, cap, by simp, by simpa using hlc, hcm, fun i x hi => ?_⟩, by simp; omega, fun x hx => ?_⟩
            · simp only [List.getElem?_map, Option.map_eq_some_iff] at hi
              obtain ⟨i', hi', rfl⟩ := hi
              obtain ⟨hlt, rfl⟩ := List.getElem?_eq_some_iff.1 hi'
              simp only [List.getElem_range, List.length_range] at hlt ⊢
              obtain ⟨cs', h1, h2, _⟩ := hY i hlt
              have hspot : a.spot = none := by
                obtain ⟨cs0, k1, _, _⟩ := hY 0 (by omega)
                obtain ⟨_, k2, k3⟩ := World.cells?_some k1
                have k4 := k3 0 (by omega)
                have e0 : (a.add (0 * t'.w)).add 0 = a := by simp [Addr.add]
                rw [e0, List.getElem?_eq_getElem (by omega)] at k4
                unfold World.cell? at k4
                split at k4
                · cases hs : a.spot with
                  | none => rfl
                  | some s => rw [hs] at k4; simp at k4
                · cases k4
              obtain ⟨b, o, s⟩ := a
              obtain rfl : s = none := hspot
              have hlt2 := World.cells?_block h1 b2
              obtain ⟨_, k2, k3⟩ := World.cells?_some h1
              rw [addr_add] at hlt2 k3
              refine ⟨b, o, cs', rfl, ⟨hlt2, fun j u hu => ?_⟩, h2⟩
              have hj := (List.getElem?_eq_some_iff.1 hu).1
              have := k3 j (by omega)
              rw [addr_add] at this
              rw [this, hu]
            · obtain ⟨i, hi, rfl⟩ := List.mem_map.1 hx
              obtain ⟨_, _, _, h3⟩ := hY i (List.mem_range.1 hi)
              exact h3
      · cases h
    · rename_i fs hu
      split at h
      · rename_i ts hts
        cases hb : Nat.beq (P.cellsOf ty) (prs ts).w with
        | false => rw [hb] at h; cases h
        | true =>
          rw [hb] at h
          cases h
          have hb := Nat.eq_of_beq_eq_true hb
          obtain ⟨xs, k, rfl, _, hl, hlen, hf⟩ := DataW.trod_struct hu hx
          have := open_fields (P := P) (enc := enc) (w := w) (base := base) (spare := spare) (held := held) (fuel := k) (cs := cs) (g := tyL P n) (fun ty t hg cs x hx => open_ty hg hx) hts (by rw [hl, hb]; omega) (fun f hf' => by
            obtain ⟨i, hi⟩ := List.mem_iff_getElem?.1 hf'
            have hi' : fs[i]? = some f := by simpa using hi
            have hlt := (Array.getElem?_eq_some_iff.1 hi').1
            exact ⟨_, (hf i f hi').trans (List.getElem?_eq_getElem (by omega))⟩)
          simpa using this
      · cases h
    · cases h

/-- A datum's cells. -/
def cellsS : (t : Ty) → t.T → List S0
  | .pr a b, x => cellsS a x.1 ++ cellsS b x.2
  | .un, _ => []
  | .i k, x => [.d (.i k) x]
  | .u8, x => [.d .u8 x]
  | .bo, x => [.d .bo x]
  | .st, x => [.d .st x]
  | .sl e, x => [.d (.sl e) x]
theorem rt_srs {S : Nat → Prop} : ∀ {t : Ty} {x : t.T} {us : List Value}, RT w S t x us → SRs w S (cellsS t x) us []
  | .pr a b, x, us, h => by
    obtain ⟨u1, u2, rfl, h1, h2⟩ := h
    exact (rt_srs h1).append (rt_srs h2)
  | .un, _, us, h => ⟨h, rfl⟩
  | .i k, x, us, h => Rows.single.2 ⟨_, h, rfl, rfl⟩
  | .u8, x, us, h => Rows.single.2 ⟨_, h, rfl, rfl⟩
  | .bo, x, us, h => Rows.single.2 ⟨_, h, rfl, rfl⟩
  | .st, x, us, h => Rows.single.2 ⟨_, h, rfl, rfl⟩
  | .sl e, x, us, h => by
    obtain ⟨A, cap, hu, _⟩ := id h
    subst hu
    exact Rows.single.2 ⟨_, rfl, rfl, h⟩
/-- A parameter that is a struct. -/
theorem open_ag {n : Nat} {ty : TypeId} {t : Ty} {fs : Array Field} {v : Value} {d : DataW H} {ps : List MemPlace} {b0 : Nat} (ht : tyL P n ty = some t) (hu : P.underlying ty = some (.struct fs)) (hok : Value.okWide P w .any b0 ty v) (h : DataW.Trod enc P w base spare held ty v d ps) :
    ∃ y : t.T, WfT t y ∧ AR w (fun b => b < w.heap.size) (.ag (cellsS t y)) v [] [] := by
  obtain ⟨fuel, hf⟩ := h
  simp only [Value.okWide, hu] at hok
  obtain ⟨cs, rfl, _, _⟩ := hok
  obtain ⟨y, h1, h2⟩ := open_ty ht hf
  exact ⟨y, h2, rfl, cs.toList, by simp, by simpa [Value.cells] using rt_srs h1⟩
/-- A parameter of one cell. -/
theorem open_c {n : Nat} {ty : TypeId} {t : Ty} {v : Value} {d : DataW H} {ps : List MemPlace} (ht : tyL P n ty = some t) (hv : v.cells.toList = [v]) (h : DataW.Trod enc P w base spare held ty v d ps) :
    ∃ y : t.T, WfT t y ∧ AR w (fun b => b < w.heap.size) (.c (.d t y)) v [] [] := by
  obtain ⟨fuel, hf⟩ := h
  obtain ⟨y, h1, h2⟩ := open_ty ht hf
  rw [hv] at h1
  exact ⟨y, h2, rfl, rfl, h1⟩
theorem one_slice {e ty : TypeId} {v : Value} {b0 : Nat} (ht : P.underlying ty = some (.slice e)) (hok : Value.okWide P w .any b0 ty v) : v.cells.toList = [v] := by
  obtain ⟨a, l, c, rfl⟩ := Go.WideShapes.okWide_slice ht hok; rfl
theorem one_int {k : IntKind} {ty : TypeId} {v : Value} {b0 : Nat} (ht : P.underlying ty = some (.int k)) (hok : Value.okWide P w .any b0 ty v) : v.cells.toList = [v] := by
  obtain ⟨a, rfl⟩ := Go.WideShapes.okWide_int ht hok; rfl
theorem one_string {ty : TypeId} {v : Value} {b0 : Nat} (ht : P.underlying ty = some .string) (hok : Value.okWide P w .any b0 ty v) : v.cells.toList = [v] := by
  obtain ⟨a, rfl⟩ := Go.WideShapes.okWide_string ht hok; rfl
theorem one_bool {ty : TypeId} {v : Value} {b0 : Nat} (ht : P.underlying ty = some .bool) (hok : Value.okWide P w .any b0 ty v) : v.cells.toList = [v] := by
  obtain ⟨a, rfl⟩ := Go.WideShapes.okWide_bool ht hok; rfl
end Go.LX
