/- Go's own Itoa and Join, as the kit's shelf has them, told as contracts of this logic. -/
import Derived.Shelf.Strconv.Itoa3
import Derived.Shelf.Strings.OnBuilder
import Derived.Sort.Grow
import Derived.Test.YtojaiockbpcilaaDoorLvSeat
set_option linter.unusedVariables false
set_option linter.unusedSimpArgs false
set_option maxRecDepth 100000
namespace Go.LX
open Go.Proofs Go.Shelf
def renItoa : Go.Shelf.Ren := ⟨fun | 171 => 102 | 243 => 112 | 246 => 115 | 283 => 120 | 284 => 121 | 285 => 122 | 286 => 123 | 129 => 128 | 317 => 127 | 318 => 129 | 319 => 130 | 320 => 131 | 337 => 134 | 338 => 135 | n => n, fun | 3 => 3 | 9 => 9 | 2 => 2 | 4 => 4 | 171 => 140 | 0 => 0 | 53 => 128 | 37 => 22 | 5 => 5 | 173 => 143 | 212 => 148 | 51 => 149 | 20 => 20 | 213 => 150 | 46 => 121 | 232 => 155 | 233 => 156 | n => n, fun | 17 => 2 | 18 => 4 | 19 => 5 | n => n⟩
theorem laysItoa : Go.Proofs.LaysM.n171 Tryd.prog renItoa where
  mixed := by kernel_rfl
  f129 := Tryd.func128.trans (congrArg some (by kernel_rfl))
  f171 := Tryd.func102.trans (congrArg some (by kernel_rfl))
  f243 := Tryd.func112.trans (congrArg some (by kernel_rfl))
  f246 := Tryd.func115.trans (congrArg some (by kernel_rfl))
  f283 := Tryd.func120.trans (congrArg some (by kernel_rfl))
  f284 := Tryd.func121.trans (congrArg some (by kernel_rfl))
  f285 := Tryd.func122.trans (congrArg some (by kernel_rfl))
  f286 := Tryd.func123.trans (congrArg some (by kernel_rfl))
  f317 := Tryd.func127.trans (congrArg some (by kernel_rfl))
  f318 := Tryd.func129.trans (congrArg some (by kernel_rfl))
  f319 := Tryd.func130.trans (congrArg some (by kernel_rfl))
  f320 := Tryd.func131.trans (congrArg some (by kernel_rfl))
  f337 := Tryd.func134.trans (congrArg some (by kernel_rfl))
  f338 := Tryd.func135.trans (congrArg some (by kernel_rfl))
  t0 := Tryd.underlying0
  a0 := Tryd.isAgg0
  z0 := Tryd.sizeOf0
  v0 := Tryd.zeroValue0
  t2 := Tryd.underlying2
  a2 := Tryd.isAgg2
  z2 := Tryd.sizeOf2
  v2 := Tryd.zeroValue2
  t3 := Tryd.underlying3
  a3 := Tryd.isAgg3
  z3 := Tryd.sizeOf3
  v3 := Tryd.zeroValue3
  t4 := Tryd.underlying4
  a4 := Tryd.isAgg4
  z4 := Tryd.sizeOf4
  v4 := Tryd.zeroValue4
  t5 := Tryd.underlying5
  a5 := Tryd.isAgg5
  z5 := Tryd.sizeOf5
  v5 := Tryd.zeroValue5
  t9 := Tryd.underlying9
  a9 := Tryd.isAgg9
  z9 := Tryd.sizeOf9
  v9 := Tryd.zeroValue9
  t20 := Tryd.underlying20
  a20 := Tryd.isAgg20
  z20 := Tryd.sizeOf20
  v20 := Tryd.zeroValue20
  t37 := Tryd.underlying22
  a37 := Tryd.isAgg22
  z37 := Tryd.sizeOf22
  v37 := Tryd.zeroValue22
  t46 := Tryd.underlying121
  a46 := Tryd.isAgg121
  z46 := Tryd.sizeOf121
  v46 := Tryd.zeroValue121
  t51 := Tryd.underlying149
  a51 := Tryd.isAgg149
  z51 := Tryd.sizeOf149
  v51 := Tryd.zeroValue149
  t53 := Tryd.underlying128
  a53 := Tryd.isAgg128
  z53 := Tryd.sizeOf128
  v53 := Tryd.zeroValue128
  t171 := Tryd.underlying140
  a171 := Tryd.isAgg140
  z171 := Tryd.sizeOf140
  v171 := Tryd.zeroValue140
  t173 := Tryd.underlying143
  a173 := Tryd.isAgg143
  z173 := Tryd.sizeOf143
  v173 := Tryd.zeroValue143
  t212 := Tryd.underlying148
  a212 := Tryd.isAgg148
  z212 := Tryd.sizeOf148
  v212 := Tryd.zeroValue148
  t213 := Tryd.underlying150
  a213 := Tryd.isAgg150
  z213 := Tryd.sizeOf150
  t232 := Tryd.underlying155
  a232 := Tryd.isAgg155
  z232 := Tryd.sizeOf155
  v232 := Tryd.zeroValue155
  t233 := Tryd.underlying156
  a233 := Tryd.isAgg156
  z233 := Tryd.sizeOf156
  v233 := Tryd.zeroValue156
  g17 := by kernel_rfl
  g18 := by kernel_rfl
  g19 := by kernel_rfl
  i0 := by kernel_rfl
  i2 := by kernel_rfl
  i3 := by kernel_rfl
  i4 := by kernel_rfl
  i5 := by kernel_rfl
  i9 := by kernel_rfl
  i20 := by kernel_rfl
  i37 := by kernel_rfl
  i46 := by kernel_rfl
  i51 := by kernel_rfl
  i53 := by kernel_rfl
  i171 := by kernel_rfl
  i173 := by kernel_rfl
  i212 := by kernel_rfl
  i232 := by kernel_rfl
  i233 := by kernel_rfl
  m17 := by kernel_rfl
  m18 := by kernel_rfl
  m19 := by kernel_rfl
def renJoin : Go.Shelf.Ren := ⟨fun | 156 => 113 | 165 => 116 | 166 => 117 | 169 => 118 | 240 => 124 | 241 => 125 | 276 => 132 | 277 => 133 | n => n, fun | 31 => 123 | 9 => 9 | 3 => 3 | 4 => 4 | 0 => 0 | 20 => 20 | 72 => 132 | 76 => 136 | 70 => 130 | 37 => 22 | 75 => 135 | 127 => 145 | 164 => 152 | 5 => 5 | 80 => 138 | n => n, fun | n => n⟩
theorem laysJoin : Go.Proofs.Lays.n156 Tryd.prog renJoin where
  mixed := by kernel_rfl
  f156 := Tryd.func113.trans (congrArg some (by kernel_rfl))
  f165 := Tryd.func116.trans (congrArg some (by kernel_rfl))
  f166 := Tryd.func117.trans (congrArg some (by kernel_rfl))
  f169 := Tryd.func118.trans (congrArg some (by kernel_rfl))
  f240 := Tryd.func124.trans (congrArg some (by kernel_rfl))
  f241 := Tryd.func125.trans (congrArg some (by kernel_rfl))
  f276 := Tryd.func132.trans (congrArg some (by kernel_rfl))
  f277 := Tryd.func133.trans (congrArg some (by kernel_rfl))
  t0 := Tryd.underlying0
  a0 := Tryd.isAgg0
  z0 := Tryd.sizeOf0
  v0 := Tryd.zeroValue0
  t3 := Tryd.underlying3
  a3 := Tryd.isAgg3
  z3 := Tryd.sizeOf3
  v3 := Tryd.zeroValue3
  t4 := Tryd.underlying4
  a4 := Tryd.isAgg4
  z4 := Tryd.sizeOf4
  v4 := Tryd.zeroValue4
  t9 := Tryd.underlying9
  a9 := Tryd.isAgg9
  z9 := Tryd.sizeOf9
  v9 := Tryd.zeroValue9
  t20 := Tryd.underlying20
  a20 := Tryd.isAgg20
  z20 := Tryd.sizeOf20
  v20 := Tryd.zeroValue20
  t31 := Tryd.underlying123
  a31 := Tryd.isAgg123
  z31 := Tryd.sizeOf123
  v31 := Tryd.zeroValue123
  t37 := Tryd.underlying22
  a37 := Tryd.isAgg22
  z37 := Tryd.sizeOf22
  v37 := Tryd.zeroValue22
  t70 := Tryd.underlying130
  a70 := Tryd.isAgg130
  z70 := Tryd.sizeOf130
  v70 := Tryd.zeroValue130
  t72 := Tryd.underlying132
  a72 := Tryd.isAgg132
  z72 := Tryd.sizeOf132
  v72 := Tryd.zeroValue132
  t75 := Tryd.underlying135
  a75 := Tryd.isAgg135
  z75 := Tryd.sizeOf135
  v75 := Tryd.zeroValue135
  t76 := Tryd.underlying136
  a76 := Tryd.isAgg136
  z76 := Tryd.sizeOf136
  v76 := Tryd.zeroValue136
  t127 := Tryd.underlying145
  a127 := Tryd.isAgg145
  z127 := Tryd.sizeOf145
  v127 := Tryd.zeroValue145
  t164 := Tryd.underlying152
  a164 := Tryd.isAgg152
  z164 := Tryd.sizeOf152
  v164 := Tryd.zeroValue152

theorem extraJoin : Builder.Extra Tryd.prog renJoin where
  sizeBuilder := by kernel_rfl
  liesBuilder := by kernel_rfl
  t5 := laysItoa.t5
  a5 := laysItoa.a5
  z5 := laysItoa.z5
  v5 := laysItoa.v5
  infoByte := by kernel_rfl
  cellsByte := by kernel_rfl
  sizeByte := by kernel_rfl
  neB5 := by decide
theorem frame_below {w w' : World} (h : Go.RowKit.Below w.heap.size w w') : FrameC w w' [] [] :=
  ⟨h.os, h.tape, h.output, h.size, fun b hb _ _ => h.block b hb, fun b hb _ f _ => cell_block (h.block b hb) f, fun b hb _ f => frozen_block (h.block b hb) f⟩
/-- A call that makes a datum without memory. -/
theorem post_flat [Glob] {w w' : World} {I : Nat → Prop} {args post : List SA} {t : Ty} {x : t.T} {vals : List Value} {v : Value} (hI : ∀ b, I b → b < w.heap.size) (h : Go.RowKit.Below w.heap.size w w') (hp : ARs w' I post vals [] []) (h1 : v.oneCell' = true) (hv : RT w' I t x [v]) : FnPost args post (.one (.d t x)) w I vals [] [] (.returned v) w' := by
  refine ⟨v, rfl, frame_below h, I, [], [], fun _ hb => hb, fun b hb => ⟨Nat.lt_of_lt_of_le (hI b hb) h.size, fun _ => .inl hb⟩, hp, ⟨h1, ?_⟩, by simp, fun b hb => by simp at hb⟩
  refine Rows.single.2 ⟨v, ?_, rfl, hv⟩
  exact val_one h1

theorem tab_of {P : Program} {w : World} {I : Nat → Prop} {name : String} {g : Nat} {k : IntKind} {zs : List Int} (hg : P.globalNamed name = some g) (h0 : zs ≠ []) (h : PA w I (.i k) zs (.pointer (some ⟨g, 0, none⟩))) (hend : w.cell? ⟨g, zs.length * (Ty.i k).w, none⟩ = none) : Lib.TabIs P w name k zs := by
  obtain ⟨b, o, hb, hc⟩ := h
  cases hb
  have hcell : ∀ (i : Nat) (z : Int), zs[i]? = some z → w.cell? ⟨g, i, none⟩ = some (.int k z) := by
    intro i z hz
    obtain ⟨vs, h1, h2⟩ := hc i z hz
    have h2 : vs = [Value.int k z] := h2
    subst h2
    have := h1.2 0 (.int k z) rfl
    simpa [Ty.w] using this
  unfold Lib.TabIs World.var?
  rw [hg]
  cases zs with
  | nil => exact absurd rfl h0
  | cons z0 zr =>
    have c0 := hcell 0 z0 rfl
    unfold World.cell? at c0
    show (match w.heap[g]? with | some (.cells cs _ _) => some cs | _ => none) = _
    split at c0
    · rename_i cs e fz hh
      have hh : w.heap[g]? = some (.cells cs e fz) := hh
      rw [hh]
      have hat : ∀ i, cs[i]? = w.cell? ⟨g, i, none⟩ := fun i => by simp [World.cell?, hh]
      have hsz : cs.size = (z0 :: zr).length := by
        have h1 : cs[(z0 :: zr).length]? = none := by rw [hat]; simpa [Ty.w] using hend
        have h2 := Array.getElem?_eq_none_iff.1 h1
        have h3 : ∃ u, cs[(z0 :: zr).length - 1]? = some u := by
          rw [hat]
          have hl : (z0 :: zr).length - 1 < (z0 :: zr).length := by simp
          exact ⟨_, hcell _ _ (List.getElem?_eq_getElem hl)⟩
        obtain ⟨u, h3⟩ := h3
        have h4 := (Array.getElem?_eq_some_iff.1 h3).1
        simp only [List.length_cons] at h2 h4 ⊢
        omega
      show some cs = _
      congr 1
      apply Array.ext_getElem?
      intro i
      rw [hat]
      by_cases hi : i < (z0 :: zr).length
      · rw [hcell i _ (List.getElem?_eq_getElem hi)]
        have : ((z0 :: zr).map fun z => Value.int k z).toArray[i]? = some (Value.int k ((z0 :: zr)[i])) := by
          rw [List.getElem?_toArray, List.getElem?_map, List.getElem?_eq_getElem hi]; rfl
        exact this.symm
      · have h1 : cs[i]? = none := Array.getElem?_eq_none_iff.2 (by omega)
        rw [← hat, h1]
        simp only [List.size_toArray, List.getElem?_toArray]
        rw [List.getElem?_eq_none (by simpa using hi)]
    · simp at c0
theorem itoa_ok (n : Int) (hn : -9223372036854775808 ≤ n ∧ n ≤ 9223372036854775807) : FnC Tryd.prog 102 [aI n] [aX] (.one (.d .st (Lib.itoa n))) := by
  intro w I vals L B hI hargs hnd hf
  cases vals with
  | nil => exact hargs.elim
  | cons v vs =>
    obtain ⟨L1, L2, B1, B2, rfl, rfl, ⟨rfl, rfl, hv⟩, hr⟩ := hargs
    cases vs with
    | cons _ _ => exact hr.elim
    | nil =>
      obtain ⟨rfl, rfl⟩ := hr
      have hv : [v] = [Value.int .i64 n] := hv
      simp only [List.cons.injEq, and_true] at hv
      subst hv
      obtain ⟨hpa, hfull⟩ := hI.2 2 (.i .u64) Lib.pow10Tab rfl
      obtain ⟨hi2, hend⟩ := hfull rfl
      have htab : Lib.TabIs Tryd.prog w "internal/strconv.uint64pow10" .u64 Lib.pow10Tab := tab_of (by kernel_rfl) (by decide) hpa hend
      refine (Any.strconv_Itoa laysItoa n hn.1 hn.2 w htab).mono ?_
      rintro e w' ⟨rfl, k, os, rfl⟩
      refine post_flat hI.1 ⟨rfl, rfl, rfl, by show w.heap.size ≤ (w.heap ++ os).size; simp, fun b hb => Sort.heap_grow_old (w.drewN k) os hb⟩ ?_ rfl ?_
      · exact ⟨[], [], [], [], rfl, rfl, ⟨rfl, rfl, rfl⟩, rfl, rfl⟩
      · rfl

theorem join_ok (xs : List (List UInt8)) (sep : List UInt8) (hN : xs.length ≤ 1000000) (hlen : (Lib.join xs sep).length ≤ 1000000000) : FnC Tryd.prog 113 [.c (.d (.sl .st) xs), aS sep] [aX, aX] (.one (.d .st (Lib.join xs sep))) := by
  intro w I vals L B hI hargs hnd hf
  cases vals with
  | nil => exact hargs.elim
  | cons v vs =>
    obtain ⟨L1, L2, B1, B2, rfl, rfl, ⟨rfl, rfl, hv⟩, hr⟩ := hargs
    cases vs with
    | nil => exact hr.elim
    | cons v2 vs =>
      obtain ⟨L1, L2, B1, B2, rfl, rfl, ⟨rfl, rfl, hv2⟩, hr⟩ := hr
      cases vs with
      | cons _ _ => exact hr.elim
      | nil =>
        obtain ⟨rfl, rfl⟩ := hr
        have hv2 : [v2] = [strV sep] := hv2
        simp only [List.cons.injEq, and_true] at hv2
        subst hv2
        obtain ⟨A, cap, hA, h1, h2, h3⟩ := hv
        simp only [List.cons.injEq, and_true] at hA
        subst hA
        have hmap : (xs.map fun s => (⟨s.toArray⟩ : ByteArray)).map (·.data.toList) = xs := by
          rw [List.map_map]; simp [Function.comp_def]
        have fin : ∀ w', Go.RowKit.Below w.heap.size w w' → FnPost [.c (.d (.sl .st) xs), aS sep] [aX, aX] (.one (.d .st (Lib.join xs sep))) w I [.slice A xs.length cap, strV sep] [] [] (.returned (strV (Lib.join xs sep))) w' := fun w' hb =>
          post_flat hI.1 hb ⟨[], [], [], [], rfl, rfl, ⟨rfl, rfl, rfl⟩, [], [], [], [], rfl, rfl, ⟨rfl, rfl, rfl⟩, rfl, rfl⟩ rfl rfl
        by_cases hx : xs = []
        · subst hx
          refine (Any.strings_Join_none laysJoin extraJoin A cap ⟨sep.toArray⟩ w).mono ?_
          rintro e w' ⟨rfl, rfl⟩
          exact fin w' (Go.RowKit.Below.refl _ _)
        · obtain ⟨x0, xr, rfl⟩ : ∃ x0 xr, xs = x0 :: xr := by
            cases xs with
            | nil => exact absurd rfl hx
            | cons a b => exact ⟨a, b, rfl⟩
          obtain ⟨b, o, vs, hA, hc, _⟩ := h3 0 x0 rfl
          subst hA
          have hcell : ∀ (j : Nat) x, ((x0 :: xr).map fun s => (⟨s.toArray⟩ : ByteArray))[j]? = some x → w.cell? ⟨b, o + j, none⟩ = some (.string x) := by
            intro j x hj
            rw [List.getElem?_map, Option.map_eq_some_iff] at hj
            obtain ⟨s, hs, rfl⟩ := hj
            obtain ⟨b', o', vs', hA', hc', hr'⟩ := h3 j s hs
            cases hA'
            have hr' : vs' = [strV s] := hr'
            subst hr'
            have := hc'.2 0 (strV s) rfl
            simpa [Ty.w, strV] using this
          have hC := Any.strings_Join laysJoin extraJoin b o cap ((x0 :: xr).map fun s => (⟨s.toArray⟩ : ByteArray)) ⟨sep.toArray⟩ w hcell (hI.1 b hc.1) (by rw [List.length_map]; omega) (by rw [List.length_map]; exact h1) (by rw [hmap]; show (Lib.join (x0 :: xr) sep).length ≤ _; omega)
          rw [List.length_map, hmap] at hC
          refine Calls.mono hC ?_
          rintro e w' ⟨rfl, hb⟩
          exact fin w' hb
end Go.LX
