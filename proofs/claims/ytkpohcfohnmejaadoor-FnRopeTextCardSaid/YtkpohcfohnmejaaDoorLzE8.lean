/- A part of the proof of the statement in the row text. -/
import Derived.Test.YtkpohcfohnmejaaDoorLzE2
import Derived.Test.YtkpohcfohnmejaaDoorLxFrz
set_option linter.unusedVariables false
set_option linter.unusedSimpArgs false
namespace Go.LX
open Go.Proofs
attribute [local irreducible] W WO OpW RW EndQ
abbrev TCh : Ty := .sl .u8
abbrev aChs (cs : List (List UInt8)) : SA := .c (.d (.sl TCh) cs)
abbrev sChs (cs : List (List UInt8)) : S0 := .d (.sl TCh) cs
noncomputable def okCh (d : List UInt8) : Bool := decide (1 ≤ (d.length : Int)) && decide ((d.length : Int) ≤ 16) && tokM d
set_option maxHeartbeats 4000000 in
set_option maxRecDepth 20000 in
theorem chunkok_ok (d : List UInt8) (hl : d.length ≤ 16777216) : FnC Tryd.prog 114 [.ag [sBy d]] [.ag [.any]] (.one (sB (okCh d))) := by
  refine FnC_of (fn := Tryd.f114) Tryd.func114 rfl rfl rfl ?_
  have zD1 := fun {z0} zh => textok_ok z0 zh
  refine stp ?_ ?_ ?_ ?_ ?_ ?_ ?_ ?_ ?_ ?_ ?_ ?_ ?_ ?_ ?_ ?_ <;> (first | exact Mk.mk | exact trivial | (intros; exact hl; done) | (repeat intro hq))
  all_goals (simp_all [okCh] <;> (intros; omega))
noncomputable def chK : List (List UInt8) → Int → Bool
  | [], _ => true
  | d :: l, n => okCh d && (!decide (400 < n + (d.length : Int)) && chK l (n + d.length))
theorem okCh_len {d : List UInt8} (h : okCh d = true) : d.length ≤ 16 := by
  simp only [okCh, Bool.and_eq_true, decide_eq_true_eq] at h
  omega
theorem chK_len : ∀ {l : List (List UInt8)} {n : Int}, chK l n = true → 0 ≤ n → n ≤ 400 → n + l.flatten.length ≤ 400
  | [], n, h, h0, hn => by simpa using hn
  | d :: l, n, h, h0, hn => by
    simp only [chK, Bool.and_eq_true, Bool.not_eq_true', decide_eq_false_iff_not] at h
    have := chK_len h.2.2 (by omega) (by omega)
    simp only [List.flatten_cons, List.length_append]
    omega
set_option maxHeartbeats 4000000 in
set_option maxRecDepth 20000 in
theorem chunksok_ok (cs : List (List UInt8)) (hn : cs.length ≤ 16777216) (hl : ∀ d ∈ cs, d.length ≤ 16777216) : FnC Tryd.prog 74 [aChs cs] [aX] (.one (sB (chK cs 0))) := by
  refine FnC_of (fn := Tryd.f74) Tryd.func74 rfl rfl rfl ?_
  refine stp ?_ ?_ ?_ ?_ ?_ ?_ ?_ ?_ ?_ ?_ ?_ ?_ ?_ ?_ ?_ ?_ <;> (first | exact Mk.mk | exact trivial | (repeat intro hq))
  refine W_loopT (fun p : Nat × Int => St.tmpl 27 [(0, .one (.d (.sl TCh) cs)), (3, .one (.d (.i .i64) p.2)), (4, .one (.d (.i .i64) (p.1 : Int)))] []) (fun p => p.1 ≤ cs.length ∧ (0 ≤ p.2 ∧ p.2 ≤ 400) ∧ chK cs 0 = chK (cs.drop p.1) p.2) (fun p => cs.length - p.1) (0, 0) ⟨Nat.zero_le _, by decide, rfl⟩ ?_ ?_
  · exact Wk_tmpl [] ⟨rfl, rfl, rfl, trivial⟩ trivial rfl rfl
  · rintro ⟨i, n⟩ ⟨hi, hb, hm⟩
    simp only at hi hb hm
    have hwi : i < cs.length → (cs.getD (i : Int).toNat (dflt TCh)).length ≤ 16777216 := fun h => by
      show (cs.getD i (dflt TCh)).length ≤ _
      rw [List.getD_eq_getElem?_getD, List.getElem?_eq_getElem h]
      exact hl _ (List.getElem_mem h)
    have hd : i < cs.length → chK (cs.drop i) n = (okCh (cs.getD i []) && (!decide (400 < n + ((cs.getD i []).length : Int)) && chK (cs.drop (i + 1)) (n + (cs.getD i []).length))) := fun h => by
      rw [List.drop_eq_getElem_cons h, chK, List.getD_eq_getElem?_getD, List.getElem?_eq_getElem h]
      rfl
    have zD1 := fun {z0} zh => chunkok_ok z0 zh
    refine stp ?_ ?_ ?_ ?_ ?_ ?_ ?_ ?_ ?_ ?_ ?_ ?_ ?_ ?_ ?_ ?_ <;> (first | exact Mk.mk | exact trivial | (repeat intro hq))
    · rename_i q1
      have e1 : (i : Int) < (cs.length : Int) := of_decide_eq_true q1
      have e2 : okCh (cs.getD i []) = false := by have : (!okCh (cs.getD i [])) = true := hq; simpa only [Bool.not_eq_true'] using this
      rw [hm, hd (by omega), e2]; rfl
    · rename_i q1 q2
      have e1 : (i : Int) < (cs.length : Int) := of_decide_eq_true (by assumption)
      have e2 : okCh (cs.getD i []) = true := by have : (!okCh (cs.getD i [])) = false := q2; simpa only [Bool.not_eq_false'] using this
      have e3 : decide (400 < n + ((cs.getD i []).length : Int)) = true := hq
      rw [hm, hd (by omega), e2, e3]; rfl
    · rename_i q1 q2
      have e1 : (i : Int) < (cs.length : Int) := of_decide_eq_true (by assumption)
      have e2 : okCh (cs.getD i []) = true := by have : (!okCh (cs.getD i [])) = false := q2; simpa only [Bool.not_eq_false'] using this
      have e3 : decide (400 < n + ((cs.getD i []).length : Int)) = false := hq
      have e4 : ¬ 400 < n + ((cs.getD i []).length : Int) := of_decide_eq_false e3
      refine ⟨(i + 1, n + ((cs.getD i []).length : Int)), by simp only; omega, ⟨by simp only; omega, ⟨by simp only; omega, by simp only; omega⟩, ?_⟩, Wk_tmpl [] ⟨rfl, rfl, rfl, trivial⟩ trivial rfl rfl⟩
      rw [hm, hd (by omega), e2, e3]; rfl
    · have e1 : ¬ (i : Int) < (cs.length : Int) := of_decide_eq_false hq
      rw [hm, List.drop_eq_nil_of_le (by omega)]; rfl
/-- What chunks hold, if they are right. -/
noncomputable def chT (cs : List (List UInt8)) : List UInt8 := if chK cs 0 = true then cs.flatten else []
theorem chT_len {cs : List (List UInt8)} : (chT cs).length ≤ 400 := by
  unfold chT
  split
  · rename_i h; have := chK_len h (by decide) (by decide); omega
  · simp
theorem flat_take {cs : List (List UInt8)} {i : Nat} : (cs.take i).flatten.length ≤ cs.flatten.length := by
  have : cs.flatten.length = (cs.take i).flatten.length + (cs.drop i).flatten.length := by
    rw [← List.length_append, ← List.flatten_append, List.take_append_drop]
  omega
theorem take_one {α : Type} {xs : List α} {i : Nat} (h : i < xs.length) (d : α) : xs.take (i + 1) = xs.take i ++ [xs.getD i d] := by
  rw [List.take_add_one, List.getD_eq_getElem?_getD, List.getElem?_eq_getElem h]; rfl
set_option maxHeartbeats 4000000 in
set_option maxRecDepth 20000 in
theorem chunkstext_ok (cs : List (List UInt8)) (hn : cs.length ≤ 16777216) (hl : ∀ d ∈ cs, d.length ≤ 16777216) : FnC Tryd.prog 64 [aChs cs] [aX] (.one (oBy (chT cs))) := by
  cases h : chK cs 0 with
  | false =>
    rw [chT, if_neg (by rw [h]; simp)]
    refine FnC_of (fn := Tryd.f64) Tryd.func64 rfl rfl rfl ?_
    refine stp ?_ ?_ ?_ ?_ ?_ ?_ ?_ ?_ ?_ ?_ ?_ ?_ ?_ ?_ ?_ ?_ <;> (first | exact Mk.mk | exact trivial | (repeat intro hq))
    refine W_loopT (fun _ : Unit => St.tmpl 24 [(0, .one (.d (.sl TCh) cs)), (3, .one (.rf 6000 .ar)), (4, .one (.d (.i .i64) 0))] [(6000, .rows 5 .u8 false [])]) (fun _ => True) (fun _ => 0) () trivial (Wk_tmpl [] ⟨rfl, rfl, rfl, trivial⟩ ⟨rfl, trivial⟩ rfl rfl) ?_
    intro _ _
    have zD1 := fun (zh : True) => chunksok_ok cs hn hl
    refine stp ?_ ?_ ?_ ?_ ?_ ?_ ?_ ?_ ?_ ?_ ?_ ?_ ?_ ?_ ?_ ?_ <;> (first | exact Mk.mk | exact trivial | (repeat intro hq))
  | true =>
    rw [chT, if_pos h]
    have hfl := chK_len h (by decide) (by decide)
    refine FnC_of (fn := Tryd.f64) Tryd.func64 rfl rfl rfl ?_
    refine stp ?_ ?_ ?_ ?_ ?_ ?_ ?_ ?_ ?_ ?_ ?_ ?_ ?_ ?_ ?_ ?_ <;> (first | exact Mk.mk | exact trivial | (repeat intro hq))
    refine W_loopT (fun i : Nat => St.tmpl 24 [(0, .one (.d (.sl TCh) cs)), (3, .one (.rf 6000 .ar)), (4, .one (.d (.i .i64) (i : Int)))] [(6000, .rows 5 .u8 false (cs.take i).flatten)]) (fun i => i ≤ cs.length) (fun i => cs.length - i) 0 (Nat.zero_le _) (Wk_tmpl [] ⟨rfl, rfl, rfl, trivial⟩ ⟨rfl, trivial⟩ rfl rfl) ?_
    intro i hi
    have hft := flat_take (cs := cs) (i := i + 1)
    have ht1 : i < cs.length → (cs.take (i + 1)).flatten = (cs.take i).flatten ++ cs.getD i [] := fun h => by rw [take_one h []]; simp
    have zD1 := fun (zh : True) => chunksok_ok cs hn hl
    refine stp ?_ ?_ ?_ ?_ ?_ ?_ ?_ ?_ ?_ ?_ ?_ ?_ ?_ ?_ ?_ ?_ <;> (first | exact Mk.mk | exact trivial | (repeat intro hq))
    · have hlt : i < cs.length := by have e1 : (i : Int) < (cs.length : Int) := of_decide_eq_true hq; omega
      have := congrArg List.length (ht1 hlt)
      rw [List.length_append] at this
      show ((cs.take i).flatten.length + (cs.getD i []).length) * 1 ≤ _
      omega
    · have hlt : i < cs.length := by have e1 : (i : Int) < (cs.length : Int) := of_decide_eq_true hq; omega
      have := congrArg List.length (ht1 hlt)
      rw [List.length_append] at this
      show (cs.take i).flatten.length + (cs.getD i []).length ≤ _
      unfold maxLen; omega
    · have hlt : i < cs.length := by have e1 : (i : Int) < (cs.length : Int) := of_decide_eq_true hq; omega
      exact ⟨i + 1, by omega, by omega, Wk_tmpl [(6000, 23000)] ⟨rfl, rfl, rfl, trivial⟩ ⟨congrArg (fun r => some (Ob.rows 5 Ty.u8 false r)) (ht1 hlt).symm, trivial⟩ rfl rfl⟩
    · have hge : ¬ (i : Int) < (cs.length : Int) := of_decide_eq_false hq
      rw [List.take_of_length_le (by omega)]
set_option maxHeartbeats 4000000 in
set_option maxRecDepth 20000 in
theorem ropetext_ok (cs : List (List UInt8)) (hn : cs.length ≤ 16777216) (hl : ∀ d ∈ cs, d.length ≤ 16777216) : FnC Tryd.prog 23 [.ag [sChs cs]] [.ag [.any]] (.one (oBy (chT cs))) := by
  refine FnC_of (fn := Tryd.f23) Tryd.func23 rfl rfl rfl ?_
  have zD1 := fun (zh : True) => chunkstext_ok cs hn hl
  refine stp ?_ ?_ ?_ ?_ ?_ ?_ ?_ ?_ ?_ ?_ ?_ ?_ ?_ ?_ ?_ ?_ <;> (first | exact Mk.mk | exact trivial | (repeat intro hq))
end Go.LX

set_option linter.unusedVariables false
set_option linter.unusedSimpArgs false
namespace Go.LX
open Go.Proofs
attribute [local irreducible] W WO OpW RW EndQ
/-- From a on there is text. -/
def chOK (xs : List UInt8) (a : Int) : Prop := (0 ≤ a ∧ a ≤ xs.length) ∧ ∃ f l, ctM xs f a = some l
theorem tok_ch {xs : List UInt8} (h : tokM xs = true) : chOK xs 0 := by
  refine ⟨⟨Int.le_refl _, by omega⟩, xs.length + 1, ?_⟩
  have h1 := of_decide_eq_true h
  have h4 := tokM_len h
  rw [cuL, if_neg (by omega)] at h1
  cases h2 : ctM xs (xs.length + 1) 0 with
  | none => rw [h2] at h1; simp at h1
  | some l => exact ⟨l, rfl⟩
theorem chOK_next {xs : List UInt8} {a : Int} (hl : xs.length ≤ 16777216) (h : chOK xs a) (ha : a < xs.length) : 0 < rsM xs a ∧ rsM xs a ≤ 4 ∧ chOK xs (a + rsM xs a) := by
  obtain ⟨hb, f, l, h⟩ := h
  obtain ⟨⟨b1, b2⟩, b3⟩ := rsM_b (xs := xs) (a := a) hl
  cases f with
  | zero => cases h
  | succ f =>
    rw [show ctM xs (f + 1) a = if a < xs.length then (if rsM xs a = 0 then none else (ctM xs f (a + rsM xs a)).map (a :: ·)) else some [a] from rfl, if_pos ha] at h
    split at h
    · cases h
    · rename_i hz
      obtain ⟨l', hl', rfl⟩ := Option.map_eq_some_iff.1 h
      have b4 := b3 (by omega)
      exact ⟨by omega, b2, ⟨by omega, by omega⟩, f, l', hl'⟩
/-- Where the chunk that begins at a ends. -/
noncomputable def ceM (xs : List UInt8) (a : Int) : Nat → Int → Int
  | 0, e => e
  | f + 1, e => if e < xs.length ∧ e + rsM xs e - a ≤ 16 then ceM xs a f (e + rsM xs e) else e
theorem ceM_ok {xs : List UInt8} {a : Int} (hl : xs.length ≤ 16777216) : ∀ {f : Nat} {e : Int}, chOK xs e → a ≤ e → chOK xs (ceM xs a f e) ∧ e ≤ ceM xs a f e
  | 0, e, h, _ => ⟨h, Int.le_refl _⟩
  | f + 1, e, h, ha => by
    unfold ceM
    split
    · rename_i hc
      obtain ⟨b1, b2, b3⟩ := chOK_next hl h hc.1
      obtain ⟨i1, i2⟩ := ceM_ok (a := a) hl (f := f) b3 (by omega)
      exact ⟨i1, by omega⟩
    · exact ⟨h, Int.le_refl _⟩
theorem ceM_gt {xs : List UInt8} {a : Int} (hl : xs.length ≤ 16777216) {f : Nat} (h : chOK xs a) (ha : a < xs.length) : a < ceM xs a (f + 1) a := by
  obtain ⟨b1, b2, b3⟩ := chOK_next hl h ha
  unfold ceM
  rw [if_pos ⟨ha, by omega⟩]
  have := (ceM_ok hl (f := f) b3 (a := a) (by omega)).2
  omega
noncomputable def coM (xs : List UInt8) : Nat → Int → List (List UInt8)
  | 0, _ => []
  | f + 1, a => if a < xs.length then cut (some a) (some (ceM xs a (xs.length + 1) a)) xs :: coM xs f (ceM xs a (xs.length + 1) a) else []
theorem coM_len {xs : List UInt8} : ∀ {f : Nat} {a : Int}, (coM xs f a).length ≤ f
  | 0, _ => by simp [coM]
  | f + 1, a => by
    unfold coM
    split
    · have := coM_len (xs := xs) (f := f) (a := ceM xs a (xs.length + 1) a)
      simp only [List.length_cons]; omega
    · simp
theorem cut_le2 {α : Type} (lo hi : Option Int) (xs : List α) : (cut lo hi xs).length ≤ xs.length := by
  unfold cut
  split <;> simp <;> omega
theorem coM_mem {xs : List UInt8} : ∀ {f : Nat} {a : Int}, ∀ d ∈ coM xs f a, d.length ≤ xs.length
  | 0, _, d, h => by simp [coM] at h
  | f + 1, a, d, h => by
    unfold coM at h
    split at h
    · rcases List.mem_cons.1 h with rfl | h
      · exact cut_le2 _ _ _
      · exact coM_mem d h
    · simp at h
noncomputable def chunksM (xs : List UInt8) : List (List UInt8) := if tokM xs = true then coM xs (xs.length + 1) 0 else []
abbrev oChs (cs : List (List UInt8)) : S0 := .own 78 TCh true cs
set_option maxHeartbeats 4000000 in
set_option maxRecDepth 20000 in
theorem chunksof_ok (xs : List UInt8) (hl : xs.length ≤ 16777216) : FnC Tryd.prog 49 [aBy xs] [aX] (.one (oChs (chunksM xs))) := by
  cases ht : tokM xs with
  | false =>
    rw [chunksM, if_neg (by rw [ht]; simp)]
    refine FnC_of (fn := Tryd.f49) Tryd.func49 rfl rfl rfl ?_
    have zD1 := fun {z0} zh => textok_ok z0 zh
    refine stp ?_ ?_ ?_ ?_ ?_ ?_ ?_ ?_ ?_ ?_ ?_ ?_ ?_ ?_ ?_ ?_ <;> (first | exact Mk.mk | exact trivial | (intros; exact hl; done) | (repeat intro hq))
  | true =>
    have h400 := tokM_len ht
    rw [chunksM, if_pos ht]
    refine FnC_of (fn := Tryd.f49) Tryd.func49 rfl rfl rfl ?_
    have zD1 := fun {z0} zh => textok_ok z0 zh
    refine stp ?_ ?_ ?_ ?_ ?_ ?_ ?_ ?_ ?_ ?_ ?_ ?_ ?_ ?_ ?_ ?_ <;> (first | exact Mk.mk | exact trivial | (intros; exact hl; done) | (repeat intro hq))
    refine W.weak (Wk_deep (q := 10000) rfl (.inr rfl)) ?_
    refine W_loopT (fun q : Nat × List (List UInt8) × Int => St.tmpl 46 [(0, .one (.d (.sl .u8) xs)), (3, .one (.rf 10000 .ar)), (4, .one (.d (.i .i64) q.2.2))] [(10000, .rows 78 TCh true q.2.1)]) (fun q => chOK xs q.2.2 ∧ xs.length - q.2.2 < q.1 ∧ q.2.1.length + q.1 ≤ 401 ∧ coM xs (xs.length + 1) 0 = q.2.1 ++ coM xs q.1 q.2.2) (fun q => q.1) (xs.length + 1, [], 0) ⟨tok_ch ht, by simp only; omega, by simp only [List.length_nil]; omega, rfl⟩ ?_ ?_
    · exact Wk_tmpl [] ⟨rfl, rfl, rfl, trivial⟩ ⟨rfl, trivial⟩ rfl rfl
    · rintro ⟨f, out, a⟩ ⟨h1, h2, h3, h5⟩
      simp only at h1 h2 h3 h5
      have h1' := h1.1
      obtain ⟨m, rfl⟩ : ∃ m, f = m + 1 := ⟨f - 1, by omega⟩
      rw [show coM xs (m + 1) a = if a < xs.length then cut (some a) (some (ceM xs a (xs.length + 1) a)) xs :: coM xs m (ceM xs a (xs.length + 1) a) else [] from rfl] at h5
      have zD1 := fun {z0} {z1} zh => runesize_ok z0 z1 zh
      refine stp ?_ ?_ ?_ ?_ ?_ ?_ ?_ ?_ ?_ ?_ ?_ ?_ ?_ ?_ ?_ ?_ <;> (first | exact Mk.mk | exact trivial | (intros; exact hl; done) | (repeat intro hq))
      · have ha : a < xs.length := of_decide_eq_true hq
        rw [if_pos ha] at h5
        have hgt := ceM_gt hl (f := xs.length) h1 ha
        obtain ⟨hE1, hE2⟩ := ceM_ok hl (f := xs.length + 1) h1 (Int.le_refl a)
        have hE1' := hE1.1
        refine W_loopT (fun q : Nat × Int => St.tmpl 46 [(0, .one (.d (.sl .u8) xs)), (3, .one (.rf 10000 .ar)), (4, .one (.d (.i .i64) a)), (5, .one (.d (.i .i64) q.2))] [(10000, .rows 78 TCh true out)]) (fun q => chOK xs q.2 ∧ a ≤ q.2 ∧ xs.length - q.2 < q.1 ∧ ceM xs a (xs.length + 1) a = ceM xs a q.1 q.2) (fun q => q.1) (xs.length + 1, a) ⟨h1, Int.le_refl _, by simp only; omega, rfl⟩ (Wk_tmpl [] ⟨rfl, rfl, rfl, rfl, trivial⟩ ⟨rfl, trivial⟩ rfl rfl) ?_
        rintro ⟨g, e⟩ ⟨k1, k2, k3, k4⟩
        simp only at k1 k2 k3 k4
        have k1' := k1.1
        obtain ⟨⟨b1, b2⟩, b3⟩ := rsM_b (xs := xs) (a := e) hl
        obtain ⟨n, rfl⟩ : ∃ n, g = n + 1 := ⟨g - 1, by omega⟩
        rw [show ceM xs a (n + 1) e = if e < xs.length ∧ e + rsM xs e - a ≤ 16 then ceM xs a n (e + rsM xs e) else e from rfl] at k4
        have zD1 := fun {z0} {z1} zh => runesize_ok z0 z1 zh
        refine stp ?_ ?_ ?_ ?_ ?_ ?_ ?_ ?_ ?_ ?_ ?_ ?_ ?_ ?_ ?_ ?_ <;> (first | exact Mk.mk | exact trivial | (intros; exact hl; done) | (repeat intro hq))
        · rename_i q1
          have e1 : e < xs.length := of_decide_eq_true q1
          have e2 : e + rsM xs e - a ≤ 16 := of_decide_eq_true hq
          obtain ⟨c1, c2, c3⟩ := chOK_next hl k1 e1
          rw [if_pos ⟨e1, e2⟩] at k4
          exact ⟨(n, e + rsM xs e), Nat.lt_succ_self n, ⟨c3, by simp only; omega, by simp only; omega, k4⟩, Wk_tmpl [] ⟨rfl, rfl, rfl, rfl, trivial⟩ ⟨rfl, trivial⟩ rfl rfl⟩
        all_goals have hNo : ¬ (e < xs.length ∧ e + rsM xs e - a ≤ 16) := (by
          intro h
          first
            | exact absurd h.2 (of_decide_eq_false hq)
            | exact absurd h.1 (of_decide_eq_false hq))
        all_goals have hE : ceM xs a (xs.length + 1) a = e := k4.trans (if_neg hNo)
        all_goals have h9 := cut_le2 (some a) (some e) xs
        all_goals first
          | (show (0 + List.length (cut (some a) (some e) xs)) * 1 ≤ (140737488355328 : Nat); omega)
          | (show 0 + List.length (cut (some a) (some e) xs) ≤ maxLen; unfold maxLen; omega)
          | (show out.length + 1 ≤ maxLen; unfold maxLen; omega)
          | (refine ⟨(m, out ++ [cut (some a) (some e) xs], e), Nat.lt_succ_self m, ⟨k1, by simp only; omega, by simp only [List.length_append, List.length_cons, List.length_nil]; omega, ?_⟩, Wk_tmpl [(10000, 44000)] ⟨rfl, rfl, rfl, trivial⟩ ⟨rfl, trivial⟩ rfl rfl⟩
             rw [h5, hE]; simp)
      · have ha : ¬ a < xs.length := of_decide_eq_false hq
        rw [if_neg ha] at h5
        rw [h5]; simp
theorem chunksM_len {xs : List UInt8} : (chunksM xs).length ≤ xs.length + 1 := by
  unfold chunksM
  split
  · exact coM_len
  · simp
theorem chunksM_mem {xs : List UInt8} : ∀ d ∈ chunksM xs, d.length ≤ xs.length := by
  unfold chunksM
  split
  · exact coM_mem
  · simp
set_option maxHeartbeats 4000000 in
set_option maxRecDepth 20000 in
theorem ropeof_ok (xs : List UInt8) (hl : xs.length ≤ 16777216) : FnC Tryd.prog 105 [aBy xs] [aX] (.tu [(true, [oChs (chunksM xs)]), (false, [sB (tokM xs)])]) := by
  cases ht : tokM xs with
  | false =>
    have e : chunksM xs = [] := by rw [chunksM, if_neg (by rw [ht]; simp)]
    rw [e]
    refine FnC_of (fn := Tryd.f105) Tryd.func105 rfl rfl rfl ?_
    have zD1 := fun {z0} zh => textok_ok z0 zh
    refine stp ?_ ?_ ?_ ?_ ?_ ?_ ?_ ?_ ?_ ?_ ?_ ?_ ?_ ?_ ?_ ?_ <;> (first | exact Mk.mk | exact trivial | (intros; exact hl; done) | (repeat intro hq))
  | true =>
    refine FnC_of (fn := Tryd.f105) Tryd.func105 rfl rfl rfl ?_
    have zD1 := fun {z0} zh => textok_ok z0 zh
    have zD2 := fun {z0} zh => chunksof_ok z0 zh
    refine stp ?_ ?_ ?_ ?_ ?_ ?_ ?_ ?_ ?_ ?_ ?_ ?_ ?_ ?_ ?_ ?_ <;> (first | exact Mk.mk | exact trivial | (intros; exact hl; done) | (repeat intro hq))
end Go.LX

set_option linter.unusedVariables false
set_option linter.unusedSimpArgs false
namespace Go.LX
open Go.Proofs
attribute [local irreducible] W WO OpW RW EndQ
set_option maxHeartbeats 4000000 in
set_option maxRecDepth 20000 in
theorem place_ex (code : List UInt8) (a s n : Int) (hl : code.length ≤ 16777216) (hc : CuB a s) (ha : a ≤ 900000000) (hn : 0 ≤ n ∧ n ≤ 100000) : ∃ r : Int × Int × Int, CuN a s r.2.1 r.2.2 5 ∧ FnC Tryd.prog 107 [aCur code a s, aI n] [aCur code r.2.1 r.2.2, aX] (.one (sI r.1)) := by
  obtain ⟨p1, b1, n1, h1⟩ := pick_ex code a s (max 1 (n + 1)) hl hc
  have c1 := n1.next hc.a0 (by omega)
  obtain ⟨p2, b2, n2, h2⟩ := pick_ex code p1.2.1 p1.2.2 (max 1 (n + 1)) hl c1
  have n12 := n1.trans n2
  have c2 := n12.next hc.a0 (by omega)
  have e2 := n12.a1
  obtain ⟨p3, n3, h3⟩ := raw_ex code p2.2.1 p2.2.2 hl c2 (by omega)
  have n13 := n12.trans n3
  have c3 := n13.next hc.a0 (by omega)
  obtain ⟨p4, b4, n4, h4⟩ := pick_ex code p3.2.1 p3.2.2 5 hl c3
  have n14 := n13.trans n4
  have b4' := b4.2.1 (by decide)
  refine ⟨(([p1.1, p2.1, n, n + 1, p3.1] : List Int).getD p4.1.toNat 0, p4.2), n14, ?_⟩
  refine FnC_of (fn := Tryd.f107) Tryd.func107 rfl rfl rfl ?_
  have zB1 := fun (zh : True) => h1
  have zB2 := fun (zh : True) => h2
  have zB3 := fun (zh : True) => h3
  have zB4 := fun (zh : True) => h4
  refine stpF ?_ ?_ ?_ ?_ ?_ ?_ ?_ ?_ ?_ ?_ ?_ ?_ ?_ ?_ ?_ ?_ <;> (first | exact Mk.mk | exact trivial | (repeat intro hq))
set_option maxHeartbeats 4000000 in
set_option maxRecDepth 20000 in
theorem cutof_ex (code : List UInt8) (a s : Int) (cs : List (List UInt8)) (hl : code.length ≤ 16777216) (hc : CuB a s) (ha : a ≤ 800000000) (hn : cs.length ≤ 16777216) (hm : ∀ d ∈ cs, d.length ≤ 16777216) : ∃ r : Int × Int × Int, CuN a s r.2.1 r.2.2 6 ∧ FnC Tryd.prog 61 [aCur code a s, .ag [sChs cs]] [aCur code r.2.1 r.2.2, .ag [.any]] (.one (sI r.1)) := by
  have hT := chT_len (cs := cs)
  have hT' : (chT cs).length ≤ 16777216 := by omega
  have hC := cuL_len hT'
  by_cases h0 : 0 < (cuL (chT cs)).length
  · obtain ⟨p1, n1, h1⟩ := once_ex code a s 9 hl hc (by decide)
    have c1 := n1.next hc.a0 (by omega)
    have e1 := n1.a1
    cases hb : p1.1 with
    | false =>
      obtain ⟨p2, b2, n2, h2⟩ := pick_ex code p1.2.1 p1.2.2 (min 256 ((cuL (chT cs)).length : Int)) hl c1
      have b2' : p2.1 < (cuL (chT cs)).length := by
        by_cases q : 2 ≤ min 256 ((cuL (chT cs)).length : Int)
        · have := b2.2.1 q; omega
        · have := b2.2.2 (by omega); omega
      have b20 := b2.1
      refine ⟨((cuL (chT cs)).getD p2.1.toNat 0, p2.2), (n1.trans n2).mono (by decide), ?_⟩
      rw [hb] at h1
      refine FnC_of (fn := Tryd.f61) Tryd.func61 rfl rfl rfl ?_
      have zD1 := fun (zh : True) => ropetext_ok cs hn hm
      have zE1 := fun {z0} zh => cuts_ok z0 zh
      have zB1 := fun (zh : True) => h1
      have zB2 := fun (zh : True) => h2
      refine stp ?_ ?_ ?_ ?_ ?_ ?_ ?_ ?_ ?_ ?_ ?_ ?_ ?_ ?_ ?_ ?_ <;> (first | exact Mk.mk | exact trivial | (intros; exact hT'; done) | (repeat intro hq))
    | true =>
      obtain ⟨p2, n2, h2⟩ := place_ex code p1.2.1 p1.2.2 (min 200 ((chT cs).length : Int)) hl c1 (by omega) (by omega)
      refine ⟨p2, n1.trans n2, ?_⟩
      rw [hb] at h1
      refine FnC_of (fn := Tryd.f61) Tryd.func61 rfl rfl rfl ?_
      have zD1 := fun (zh : True) => ropetext_ok cs hn hm
      have zE1 := fun {z0} zh => cuts_ok z0 zh
      have zB1 := fun (zh : True) => h1
      have zB2 := fun (zh : True) => h2
      refine stp ?_ ?_ ?_ ?_ ?_ ?_ ?_ ?_ ?_ ?_ ?_ ?_ ?_ ?_ ?_ ?_ <;> (first | exact Mk.mk | exact trivial | (intros; exact hT'; done) | (repeat intro hq))
  · obtain ⟨p2, n2, h2⟩ := place_ex code a s (min 200 ((chT cs).length : Int)) hl hc (by omega) (by omega)
    refine ⟨p2, n2.mono (by decide), ?_⟩
    refine FnC_of (fn := Tryd.f61) Tryd.func61 rfl rfl rfl ?_
    have zD1 := fun (zh : True) => ropetext_ok cs hn hm
    have zE1 := fun {z0} zh => cuts_ok z0 zh
    have zB1 := fun (zh : True) => h2
    refine stp ?_ ?_ ?_ ?_ ?_ ?_ ?_ ?_ ?_ ?_ ?_ ?_ ?_ ?_ ?_ ?_ <;> (first | exact Mk.mk | exact trivial | (intros; exact hT'; done) | (repeat intro hq))
end Go.LX

set_option linter.unusedVariables false
set_option linter.unusedSimpArgs false
namespace Go.LX
open Go.Proofs
attribute [local irreducible] W WO OpW RW EndQ
set_option maxHeartbeats 4000000 in
set_option maxRecDepth 20000 in
theorem span_ex (code : List UInt8) (a s : Int) (cs : List (List UInt8)) (hl : code.length ≤ 16777216) (hc : CuB a s) (ha : a ≤ 700000000) (hn : cs.length ≤ 16777216) (hm : ∀ d ∈ cs, d.length ≤ 16777216) : ∃ r : (Int × Int) × Int × Int, CuN a s r.2.1 r.2.2 13 ∧ FnC Tryd.prog 69 [aCur code a s, .ag [sChs cs]] [aCur code r.2.1 r.2.2, .ag [.any]] (.tu [(false, [sI r.1.1]), (false, [sI r.1.2])]) := by
  obtain ⟨p1, n1, h1⟩ := cutof_ex code a s cs hl hc (by omega) hn hm
  have c1 := n1.next hc.a0 (by omega)
  have e1 := n1.a1
  obtain ⟨p2, n2, h2⟩ := cutof_ex code p1.2.1 p1.2.2 cs hl c1 (by omega) hn hm
  have n12 := n1.trans n2
  have c2 := n12.next hc.a0 (by omega)
  obtain ⟨p3, n3, h3⟩ := once_ex code p2.2.1 p2.2.2 9 hl c2 (by decide)
  by_cases h0 : p2.1 < p1.1
  · cases hb : p3.1 with
    | true =>
      rw [hb] at h3
      refine ⟨((p1.1, p2.1), p3.2), n12.trans n3, ?_⟩
      refine FnC_of (fn := Tryd.f69) Tryd.func69 rfl rfl rfl ?_
      have zB1 := fun (zh : True) => h1
      have zB2 := fun (zh : True) => h2
      have zB3 := fun (zh : True) => h3
      refine stp ?_ ?_ ?_ ?_ ?_ ?_ ?_ ?_ ?_ ?_ ?_ ?_ ?_ ?_ ?_ ?_ <;> (first | exact Mk.mk | exact trivial | (repeat intro hq))
    | false =>
      rw [hb] at h3
      refine ⟨((p2.1, p1.1), p3.2), n12.trans n3, ?_⟩
      refine FnC_of (fn := Tryd.f69) Tryd.func69 rfl rfl rfl ?_
      have zB1 := fun (zh : True) => h1
      have zB2 := fun (zh : True) => h2
      have zB3 := fun (zh : True) => h3
      refine stp ?_ ?_ ?_ ?_ ?_ ?_ ?_ ?_ ?_ ?_ ?_ ?_ ?_ ?_ ?_ ?_ <;> (first | exact Mk.mk | exact trivial | (repeat intro hq))
  · refine ⟨((p1.1, p2.1), p2.2), n12.mono (by decide), ?_⟩
    refine FnC_of (fn := Tryd.f69) Tryd.func69 rfl rfl rfl ?_
    have zB1 := fun (zh : True) => h1
    have zB2 := fun (zh : True) => h2
    have zB3 := fun (zh : True) => h3
    refine stp ?_ ?_ ?_ ?_ ?_ ?_ ?_ ?_ ?_ ?_ ?_ ?_ ?_ ?_ ?_ ?_ <;> (first | exact Mk.mk | exact trivial | (repeat intro hq))
end Go.LX

set_option linter.unusedVariables false
set_option linter.unusedSimpArgs false
namespace Go.LX
open Go.Proofs
attribute [local irreducible] W WO OpW RW EndQ
end Go.LX

set_option linter.unusedVariables false
set_option linter.unusedSimpArgs false
namespace Go.LX
open Go.Proofs
attribute [local irreducible] W WO OpW RW EndQ
set_option maxHeartbeats 4000000 in
set_option maxRecDepth 20000 in
theorem badtext_ex (code : List UInt8) (a s n : Int) (hl : code.length ≤ 16777216) (hc : CuB a s) (ha : a ≤ 600000000) (hn : 1 ≤ n ∧ n ≤ 1000) : ∃ r : List UInt8 × Int × Int, r.1.length ≤ 1001 ∧ CuN a s r.2.1 r.2.2 (5 + 3 * n) ∧ FnC Tryd.prog 73 [aCur code a s, aI n] [aCur code r.2.1 r.2.2, aX] (.one (oBy r.1)) := by
  obtain ⟨p1, b1, n1, h1⟩ := text_ex code a s n hl hc (by omega) hn
  have c1 := n1.next hc.a0 (by omega)
  have e1 := n1.a1
  obtain ⟨p2, b2, n2, h2⟩ := pick_ex code p1.2.1 p1.2.2 9 hl c1
  have n12 := n1.trans n2
  have c2 := n12.next hc.a0 (by omega)
  have e2 := n12.a1
  have b2' := b2.2.1 (by decide)
  by_cases q0 : p2.1 = 0
  · by_cases hp : 0 < p1.1.length
    · obtain ⟨p3, b3, n3, h3⟩ := pick_ex code p2.2.1 p2.2.2 (min 256 (p1.1.length : Int)) hl c2
      have n13 := n12.trans n3
      have c3 := n13.next hc.a0 (by omega)
      obtain ⟨p4, b4, n4, h4⟩ := pick_ex code p3.2.1 p3.2.2 256 hl c3
      have n14 := n13.trans n4
      have c4 := n14.next hc.a0 (by omega)
      obtain ⟨p5, b5, n5, h5⟩ := pick_ex code p4.2.1 p4.2.2 10 hl c4
      have n15 := n14.trans n5
      have b4' := b4.2.1 (by decide)
      have b5' := b5.2.1 (by decide)
      have b30 := b3.1
      have b3' : p3.1 < p1.1.length := by
        by_cases q : 2 ≤ min 256 (p1.1.length : Int)
        · have := b3.2.1 q; omega
        · have := b3.2.2 (by omega); omega
      refine ⟨(p1.1.set p3.1.toNat (toB (([128, 192, 193, 224, 237, 240, 244, 245, 255, p4.1] : List Int).getD p5.1.toNat 0)), p5.2), by simp only [List.length_set]; omega, n15.mono (by omega), ?_⟩
      refine FnC_of (fn := Tryd.f73) Tryd.func73 rfl rfl rfl ?_
      have zB1 := fun (zh : True) => h1
      have zB2 := fun (zh : True) => h2
      have zB3 := fun (zh : True) => h3
      have zB4 := fun (zh : True) => h4
      have zB5 := fun (zh : True) => h5
      refine stpF ?_ ?_ ?_ ?_ ?_ ?_ ?_ ?_ ?_ ?_ ?_ ?_ ?_ ?_ ?_ ?_ <;> (first | exact Mk.mk | exact trivial | (repeat intro hq))
    · refine ⟨(p1.1, p2.2), by simp only; omega, n12.mono (by omega), ?_⟩
      refine FnC_of (fn := Tryd.f73) Tryd.func73 rfl rfl rfl ?_
      have zB1 := fun (zh : True) => h1
      have zB2 := fun (zh : True) => h2
      refine stpF ?_ ?_ ?_ ?_ ?_ ?_ ?_ ?_ ?_ ?_ ?_ ?_ ?_ ?_ ?_ ?_ <;> (first | exact Mk.mk | exact trivial | (repeat intro hq))
  · by_cases q1 : p2.1 = 1
    · obtain ⟨p3, b3, n3, h3⟩ := pick_ex code p2.2.1 p2.2.2 3 hl c2
      have b3' := b3.2.1 (by decide)
      refine ⟨(p1.1 ++ [([195, 226, 240] : List UInt8).getD p3.1.toNat 0], p3.2), by simp only [List.length_append, List.length_cons, List.length_nil]; omega, (n12.trans n3).mono (by omega), ?_⟩
      refine FnC_of (fn := Tryd.f73) Tryd.func73 rfl rfl rfl ?_
      have zB1 := fun (zh : True) => h1
      have zB2 := fun (zh : True) => h2
      have zB3 := fun (zh : True) => h3
      refine stpF ?_ ?_ ?_ ?_ ?_ ?_ ?_ ?_ ?_ ?_ ?_ ?_ ?_ ?_ ?_ ?_ <;> (first | exact Mk.mk | exact trivial | (repeat intro hq))
      all_goals (show p1.1.length + 1 ≤ maxLen; unfold maxLen; omega)
    · by_cases q2 : p2.1 = 2
      · obtain ⟨p3, n3, h3⟩ := once_ex code p2.2.1 p2.2.2 5 hl c2 (by decide)
        have n13 := n12.trans n3
        have c3 := n13.next hc.a0 (by omega)
        cases hb : p3.1 with
        | false =>
          rw [hb] at h3
          refine ⟨(p1.1, p3.2), by simp only; omega, n13.mono (by omega), ?_⟩
          refine FnC_of (fn := Tryd.f73) Tryd.func73 rfl rfl rfl ?_
          have zB1 := fun (zh : True) => h1
          have zB2 := fun (zh : True) => h2
          have zB3 := fun (zh : True) => h3
          refine stpF ?_ ?_ ?_ ?_ ?_ ?_ ?_ ?_ ?_ ?_ ?_ ?_ ?_ ?_ ?_ ?_ <;> (first | exact Mk.mk | exact trivial | (repeat intro hq))
        | true =>
          rw [hb] at h3
          obtain ⟨p4, b4, n4, h4⟩ := pick_ex code p3.2.1 p3.2.2 2 hl c3
          have b4' := b4.2.1 (by decide)
          refine ⟨(List.replicate (400 + p4.1).toNat 0, p4.2), by simp only [List.length_replicate]; omega, (n13.trans n4).mono (by omega), ?_⟩
          refine FnC_of (fn := Tryd.f73) Tryd.func73 rfl rfl rfl ?_
          have zB1 := fun (zh : True) => h1
          have zB2 := fun (zh : True) => h2
          have zB3 := fun (zh : True) => h3
          have zB4 := fun (zh : True) => h4
          refine stpF ?_ ?_ ?_ ?_ ?_ ?_ ?_ ?_ ?_ ?_ ?_ ?_ ?_ ?_ ?_ ?_ <;> (first | exact Mk.mk | exact trivial | (repeat intro hq))
      · refine ⟨(p1.1, p2.2), by simp only; omega, n12.mono (by omega), ?_⟩
        refine FnC_of (fn := Tryd.f73) Tryd.func73 rfl rfl rfl ?_
        have zB1 := fun (zh : True) => h1
        have zB2 := fun (zh : True) => h2
        refine stpF ?_ ?_ ?_ ?_ ?_ ?_ ?_ ?_ ?_ ?_ ?_ ?_ ?_ ?_ ?_ ?_ <;> (first | exact Mk.mk | exact trivial | (repeat intro hq))
end Go.LX

