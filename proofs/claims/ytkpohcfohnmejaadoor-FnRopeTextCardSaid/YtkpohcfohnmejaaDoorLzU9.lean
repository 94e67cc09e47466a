/- A part of the proof of the statement in the row text. -/
import Derived.Test.YtkpohcfohnmejaaDoorLzU6
import Derived.Test.YtkpohcfohnmejaaDoorLzB2
import Derived.Test.YtkpohcfohnmejaaDoorLxFrz
import Derived.Test.YtkpohcfohnmejaaDoorLxOpen
set_option linter.unusedVariables false
set_option linter.unusedSimpArgs false
namespace Go.LX
open Go.Proofs
attribute [local irreducible] W WO OpW RW EndQ
theorem rows_eq {e : TypeId} {t : Ty} {dp : Bool} {x y : List t.T} (h : x = y) : some (Ob.rows e t dp x) = some (Ob.rows e t dp y) := by rw [h]
theorem int_eq {x y : Int} (h : x = y) : SV.one (C.d (Ty.i IntKind.i64) x) = SV.one (C.d (Ty.i IntKind.i64) y) := by rw [h]
theorem cut_tk {xs : List UInt8} {z : Int} {n : Nat} (h : z = n) : cut none (some z) xs = xs.take n := by subst h; simp [cut]
theorem cut_dp {xs : List UInt8} {z : Int} {n : Nat} (h : z = n) : cut (some z) none xs = xs.drop n := by subst h; simp [cut]
set_option maxHeartbeats 4000000 in
set_option maxRecDepth 20000 in
theorem iredit_ok (cs : List (List UInt8)) (a c : Nat) (put : List UInt8) (hR : Rp cs) (hE : RpE cs a (a + c) put) (hp : put.length ≤ 400) : FnC Tryd.prog 54 [aRp cs, aI a, aI c, aBy put] [aRp0, aX, aX, aX] (.ag [oChs (ropeE cs a (a + c) put)]) := by
  have hn := hR.len
  have hl := hR.l
  have hb := hE.bl
  refine FnC_of (fn := Tryd.f54) Tryd.func54 rfl rfl rfl ?_
  refine stp ?_ ?_ ?_ ?_ ?_ ?_ ?_ ?_ ?_ ?_ ?_ ?_ ?_ ?_ ?_ ?_ <;> (first | exact Mk.mk | exact trivial | (repeat intro hq))
  refine W_loopT (fun i : Nat => St.tmpl 103 [(1, .one (.d (.i .i64) (a : Int))), (2, .one (.d (.i .i64) (c : Int))), (3, .one (.d (.sl .u8) put)), (8, .one (.rf 9000 (.pb 0))), (9, .one (.rf 18000 .ar)), (10, .one (.rf 19000 .ar)), (11, .one (.rf 20000 .ar)), (12, .one (.rf 21000 .ar)), (13, .one (.d (.i .i64) ((cs.take i).flatten.length : Nat))), (22, .one (.d (.sl TCh) cs)), (23, .one (.d (.i .i64) (cs.length : Nat))), (24, .one (.d (.i .i64) (i : Int)))] [(9000, .cells [.nl]), (18000, .rows 78 TCh false (rpH a 0 (cs.take i))), (19000, .rows 78 TCh false (rpT (a + c) 0 (cs.take i))), (20000, .rows 5 .u8 false (rpL a 0 (cs.take i))), (21000, .rows 5 .u8 false (rpR (a + c) 0 (cs.take i)))]) (fun i => i ≤ cs.length) (fun i => cs.length - i) 0 (Nat.zero_le _) ?_ ?_
  · exact Wk_tmpl [] ⟨rfl, rfl, rfl, rfl, rfl, rfl, rfl, rfl, rfl, rfl, rfl, rfl, trivial⟩ ⟨rfl, rfl, rfl, rfl, rfl, trivial⟩ rfl rfl
  · intro i hi
    by_cases hlt : i < cs.length
    · have hfs := fl_step hlt
      have hfl := flat_take (cs := cs) (i := i + 1)
      have l1 := rpH_len (a := a) (cs := cs.take i) (f := 0)
      have l2 := rpT_len (a := a + c) (cs := cs.take i) (f := 0)
      have l3 := rpL_len (a := a) (cs := cs.take i) (f := 0)
      have l4 := rpR_len (a := a + c) (cs := cs.take i) (f := 0)
      have l5 : (cs.take i).length = i := by rw [List.length_take]; omega
      have hd0 : (cs.getD i []).length ≠ 0 := fun h0 => by
        have hm : cs.getD i [] ∈ cs := by rw [List.getD_eq_getElem?_getD, List.getElem?_eq_getElem hlt]; exact List.getElem_mem hlt
        exact hR.n _ hm (List.eq_nil_of_length_eq_zero h0)
      have sH := rpH_st (a := a) hlt
      have sL := rpL_st (a := a) hlt
      have sT := rpT_st (a := a + c) hlt
      have sR := rpR_st (a := a + c) hlt
      obtain ⟨d, hd⟩ : ∃ d : List UInt8, cs.getD (i : Int).toNat (dflt TCh) = d := ⟨_, rfl⟩
      have hd' : cs.getD i [] = d := hd
      rw [hd'] at sH sL sT sR hfs hd0
      clear hd'
      obtain ⟨k, hk⟩ : ∃ k : Nat, d.length = k := ⟨_, rfl⟩
      refine stp ?_ ?_ ?_ ?_ ?_ ?_ ?_ ?_ ?_ ?_ ?_ ?_ ?_ ?_ ?_ ?_ <;> (first | exact Mk.mk | exact trivial | (repeat intro hq))
      rotate_left 1
      · refine OpW_weak (Wk_freeze (o := 40000) rfl) ?_
        refine stp ?_ ?_ ?_ ?_ ?_ ?_ ?_ ?_ ?_ ?_ ?_ ?_ ?_ ?_ ?_ ?_ <;> (first | exact Mk.mk | exact trivial | (repeat intro hq))
        all_goals try simp only [hd, cond_true, cond_false, decide_eq_true_eq, decide_eq_false_iff_not] at *
        all_goals have hk1 : @List.length Ty.u8.T d = k := hk
        all_goals first
          | (show (_ : Int) ≤ (_ : Int); omega)
          | (show (_ + List.length (cut none _ d)) * 1 ≤ (_ : Nat); have := cut_le2 none (some ((a : Int) - ((cs.take i).flatten.length : Nat))) d; omega)
          | (show _ + List.length (cut none _ d) ≤ (_ : Nat); have := cut_le2 none (some ((a : Int) - ((cs.take i).flatten.length : Nat))) d; unfold maxLen; omega)
          | (show (_ + List.length (cut _ none d)) * 1 ≤ (_ : Nat); have := cut_le2 (some ((a : Int) + (c : Int) - ((cs.take i).flatten.length : Nat))) none d; omega)
          | (show _ + List.length (cut _ none d) ≤ (_ : Nat); have := cut_le2 (some ((a : Int) + (c : Int) - ((cs.take i).flatten.length : Nat))) none d; unfold maxLen; omega)
          | (show _ + 1 ≤ (_ : Nat); unfold maxLen; omega)
          | (show (_ + 1) * 24 ≤ (_ : Nat); omega)
          | exact ⟨i + 1, by omega, by omega, Wk_tmpl [] ⟨rfl, rfl, rfl, rfl, rfl, rfl, rfl, rfl, int_eq (by omega), rfl, rfl, rfl, trivial⟩ ⟨rfl, rows_eq (by rw [sH, if_neg (by omega), List.append_nil]), rows_eq (by rw [sT, if_neg (by omega), List.append_nil]), rows_eq (by rw [sL, if_neg (by omega), List.append_nil]), rows_eq (by rw [sR, if_neg (by omega), List.append_nil]), trivial⟩ rfl rfl⟩
          | exact ⟨i + 1, by omega, by omega, Wk_tmpl [(21000, 89000)] ⟨rfl, rfl, rfl, rfl, rfl, rfl, rfl, rfl, int_eq (by omega), rfl, rfl, rfl, trivial⟩ ⟨rfl, rows_eq (by rw [sH, if_neg (by omega), List.append_nil]), rows_eq (by rw [sT, if_neg (by omega), List.append_nil]), rows_eq (by rw [sL, if_neg (by omega), List.append_nil]), rows_eq (by rw [sR, if_pos (by omega)]; exact congrArg (fun r => _ ++ r) (cut_dp (by omega))), trivial⟩ rfl rfl⟩
          | exact ⟨i + 1, by omega, by omega, Wk_tmpl [(20000, 67000)] ⟨rfl, rfl, rfl, rfl, rfl, rfl, rfl, rfl, int_eq (by omega), rfl, rfl, rfl, trivial⟩ ⟨rfl, rows_eq (by rw [sH, if_neg (by omega), List.append_nil]), rows_eq (by rw [sT, if_neg (by omega), List.append_nil]), rows_eq (by rw [sL, if_pos (by omega)]; exact congrArg (fun r => _ ++ r) (cut_tk (by omega))), rows_eq (by rw [sR, if_neg (by omega), List.append_nil]), trivial⟩ rfl rfl⟩
          | exact ⟨i + 1, by omega, by omega, Wk_tmpl [(20000, 67000), (21000, 89000)] ⟨rfl, rfl, rfl, rfl, rfl, rfl, rfl, rfl, int_eq (by omega), rfl, rfl, rfl, trivial⟩ ⟨rfl, rows_eq (by rw [sH, if_neg (by omega), List.append_nil]), rows_eq (by rw [sT, if_neg (by omega), List.append_nil]), rows_eq (by rw [sL, if_pos (by omega)]; exact congrArg (fun r => _ ++ r) (cut_tk (by omega))), rows_eq (by rw [sR, if_pos (by omega)]; exact congrArg (fun r => _ ++ r) (cut_dp (by omega))), trivial⟩ rfl rfl⟩
          | exact ⟨i + 1, by omega, by omega, Wk_tmpl [(18000, 41000)] ⟨rfl, rfl, rfl, rfl, rfl, rfl, rfl, rfl, int_eq (by omega), rfl, rfl, rfl, trivial⟩ ⟨rfl, rows_eq (sH.trans (by rw [if_pos (by omega)]; rfl)).symm, rows_eq (by rw [sT, if_neg (by omega), List.append_nil]), rows_eq (by rw [sL, if_neg (by omega), List.append_nil]), rows_eq (by rw [sR, if_neg (by omega), List.append_nil]), trivial⟩ rfl rfl⟩
          | exact ⟨i + 1, by omega, by omega, Wk_tmpl [(18000, 41000), (21000, 89000)] ⟨rfl, rfl, rfl, rfl, rfl, rfl, rfl, rfl, int_eq (by omega), rfl, rfl, rfl, trivial⟩ ⟨rfl, rows_eq (sH.trans (by rw [if_pos (by omega)]; rfl)).symm, rows_eq (by rw [sT, if_neg (by omega), List.append_nil]), rows_eq (by rw [sL, if_neg (by omega), List.append_nil]), rows_eq (by rw [sR, if_pos (by omega)]; exact congrArg (fun r => _ ++ r) (cut_dp (by omega))), trivial⟩ rfl rfl⟩
          | exact ⟨i + 1, by omega, by omega, Wk_tmpl [(18000, 41000), (20000, 67000)] ⟨rfl, rfl, rfl, rfl, rfl, rfl, rfl, rfl, int_eq (by omega), rfl, rfl, rfl, trivial⟩ ⟨rfl, rows_eq (sH.trans (by rw [if_pos (by omega)]; rfl)).symm, rows_eq (by rw [sT, if_neg (by omega), List.append_nil]), rows_eq (by rw [sL, if_pos (by omega)]; exact congrArg (fun r => _ ++ r) (cut_tk (by omega))), rows_eq (by rw [sR, if_neg (by omega), List.append_nil]), trivial⟩ rfl rfl⟩
          | exact ⟨i + 1, by omega, by omega, Wk_tmpl [(18000, 41000), (20000, 67000), (21000, 89000)] ⟨rfl, rfl, rfl, rfl, rfl, rfl, rfl, rfl, int_eq (by omega), rfl, rfl, rfl, trivial⟩ ⟨rfl, rows_eq (sH.trans (by rw [if_pos (by omega)]; rfl)).symm, rows_eq (by rw [sT, if_neg (by omega), List.append_nil]), rows_eq (by rw [sL, if_pos (by omega)]; exact congrArg (fun r => _ ++ r) (cut_tk (by omega))), rows_eq (by rw [sR, if_pos (by omega)]; exact congrArg (fun r => _ ++ r) (cut_dp (by omega))), trivial⟩ rfl rfl⟩
          | exact ⟨i + 1, by omega, by omega, Wk_tmpl [(19000, 51000)] ⟨rfl, rfl, rfl, rfl, rfl, rfl, rfl, rfl, int_eq (by omega), rfl, rfl, rfl, trivial⟩ ⟨rfl, rows_eq (by rw [sH, if_neg (by omega), List.append_nil]), rows_eq (sT.trans (by rw [if_pos (by omega)]; rfl)).symm, rows_eq (by rw [sL, if_neg (by omega), List.append_nil]), rows_eq (by rw [sR, if_neg (by omega), List.append_nil]), trivial⟩ rfl rfl⟩
          | exact ⟨i + 1, by omega, by omega, Wk_tmpl [(19000, 51000), (21000, 89000)] ⟨rfl, rfl, rfl, rfl, rfl, rfl, rfl, rfl, int_eq (by omega), rfl, rfl, rfl, trivial⟩ ⟨rfl, rows_eq (by rw [sH, if_neg (by omega), List.append_nil]), rows_eq (sT.trans (by rw [if_pos (by omega)]; rfl)).symm, rows_eq (by rw [sL, if_neg (by omega), List.append_nil]), rows_eq (by rw [sR, if_pos (by omega)]; exact congrArg (fun r => _ ++ r) (cut_dp (by omega))), trivial⟩ rfl rfl⟩
          | exact ⟨i + 1, by omega, by omega, Wk_tmpl [(19000, 51000), (20000, 67000)] ⟨rfl, rfl, rfl, rfl, rfl, rfl, rfl, rfl, int_eq (by omega), rfl, rfl, rfl, trivial⟩ ⟨rfl, rows_eq (by rw [sH, if_neg (by omega), List.append_nil]), rows_eq (sT.trans (by rw [if_pos (by omega)]; rfl)).symm, rows_eq (by rw [sL, if_pos (by omega)]; exact congrArg (fun r => _ ++ r) (cut_tk (by omega))), rows_eq (by rw [sR, if_neg (by omega), List.append_nil]), trivial⟩ rfl rfl⟩
          | exact ⟨i + 1, by omega, by omega, Wk_tmpl [(19000, 51000), (20000, 67000), (21000, 89000)] ⟨rfl, rfl, rfl, rfl, rfl, rfl, rfl, rfl, int_eq (by omega), rfl, rfl, rfl, trivial⟩ ⟨rfl, rows_eq (by rw [sH, if_neg (by omega), List.append_nil]), rows_eq (sT.trans (by rw [if_pos (by omega)]; rfl)).symm, rows_eq (by rw [sL, if_pos (by omega)]; exact congrArg (fun r => _ ++ r) (cut_tk (by omega))), rows_eq (by rw [sR, if_pos (by omega)]; exact congrArg (fun r => _ ++ r) (cut_dp (by omega))), trivial⟩ rfl rfl⟩
      · refine OpW_weak (Wk_freeze (o := 50000) rfl) ?_
        refine stp ?_ ?_ ?_ ?_ ?_ ?_ ?_ ?_ ?_ ?_ ?_ ?_ ?_ ?_ ?_ ?_ <;> (first | exact Mk.mk | exact trivial | (repeat intro hq))
        all_goals try simp only [hd, cond_true, cond_false, decide_eq_true_eq, decide_eq_false_iff_not] at *
        all_goals have hk1 : @List.length Ty.u8.T d = k := hk
        all_goals first
          | (show (_ : Int) ≤ (_ : Int); omega)
          | (show (_ + List.length (cut none _ d)) * 1 ≤ (_ : Nat); have := cut_le2 none (some ((a : Int) - ((cs.take i).flatten.length : Nat))) d; omega)
          | (show _ + List.length (cut none _ d) ≤ (_ : Nat); have := cut_le2 none (some ((a : Int) - ((cs.take i).flatten.length : Nat))) d; unfold maxLen; omega)
          | (show (_ + List.length (cut _ none d)) * 1 ≤ (_ : Nat); have := cut_le2 (some ((a : Int) + (c : Int) - ((cs.take i).flatten.length : Nat))) none d; omega)
          | (show _ + List.length (cut _ none d) ≤ (_ : Nat); have := cut_le2 (some ((a : Int) + (c : Int) - ((cs.take i).flatten.length : Nat))) none d; unfold maxLen; omega)
          | (show _ + 1 ≤ (_ : Nat); unfold maxLen; omega)
          | (show (_ + 1) * 24 ≤ (_ : Nat); omega)
          | exact ⟨i + 1, by omega, by omega, Wk_tmpl [] ⟨rfl, rfl, rfl, rfl, rfl, rfl, rfl, rfl, int_eq (by omega), rfl, rfl, rfl, trivial⟩ ⟨rfl, rows_eq (by rw [sH, if_neg (by omega), List.append_nil]), rows_eq (by rw [sT, if_neg (by omega), List.append_nil]), rows_eq (by rw [sL, if_neg (by omega), List.append_nil]), rows_eq (by rw [sR, if_neg (by omega), List.append_nil]), trivial⟩ rfl rfl⟩
          | exact ⟨i + 1, by omega, by omega, Wk_tmpl [(21000, 89000)] ⟨rfl, rfl, rfl, rfl, rfl, rfl, rfl, rfl, int_eq (by omega), rfl, rfl, rfl, trivial⟩ ⟨rfl, rows_eq (by rw [sH, if_neg (by omega), List.append_nil]), rows_eq (by rw [sT, if_neg (by omega), List.append_nil]), rows_eq (by rw [sL, if_neg (by omega), List.append_nil]), rows_eq (by rw [sR, if_pos (by omega)]; exact congrArg (fun r => _ ++ r) (cut_dp (by omega))), trivial⟩ rfl rfl⟩
          | exact ⟨i + 1, by omega, by omega, Wk_tmpl [(20000, 67000)] ⟨rfl, rfl, rfl, rfl, rfl, rfl, rfl, rfl, int_eq (by omega), rfl, rfl, rfl, trivial⟩ ⟨rfl, rows_eq (by rw [sH, if_neg (by omega), List.append_nil]), rows_eq (by rw [sT, if_neg (by omega), List.append_nil]), rows_eq (by rw [sL, if_pos (by omega)]; exact congrArg (fun r => _ ++ r) (cut_tk (by omega))), rows_eq (by rw [sR, if_neg (by omega), List.append_nil]), trivial⟩ rfl rfl⟩
          | exact ⟨i + 1, by omega, by omega, Wk_tmpl [(20000, 67000), (21000, 89000)] ⟨rfl, rfl, rfl, rfl, rfl, rfl, rfl, rfl, int_eq (by omega), rfl, rfl, rfl, trivial⟩ ⟨rfl, rows_eq (by rw [sH, if_neg (by omega), List.append_nil]), rows_eq (by rw [sT, if_neg (by omega), List.append_nil]), rows_eq (by rw [sL, if_pos (by omega)]; exact congrArg (fun r => _ ++ r) (cut_tk (by omega))), rows_eq (by rw [sR, if_pos (by omega)]; exact congrArg (fun r => _ ++ r) (cut_dp (by omega))), trivial⟩ rfl rfl⟩
          | exact ⟨i + 1, by omega, by omega, Wk_tmpl [(18000, 41000)] ⟨rfl, rfl, rfl, rfl, rfl, rfl, rfl, rfl, int_eq (by omega), rfl, rfl, rfl, trivial⟩ ⟨rfl, rows_eq (sH.trans (by rw [if_pos (by omega)]; rfl)).symm, rows_eq (by rw [sT, if_neg (by omega), List.append_nil]), rows_eq (by rw [sL, if_neg (by omega), List.append_nil]), rows_eq (by rw [sR, if_neg (by omega), List.append_nil]), trivial⟩ rfl rfl⟩
          | exact ⟨i + 1, by omega, by omega, Wk_tmpl [(18000, 41000), (21000, 89000)] ⟨rfl, rfl, rfl, rfl, rfl, rfl, rfl, rfl, int_eq (by omega), rfl, rfl, rfl, trivial⟩ ⟨rfl, rows_eq (sH.trans (by rw [if_pos (by omega)]; rfl)).symm, rows_eq (by rw [sT, if_neg (by omega), List.append_nil]), rows_eq (by rw [sL, if_neg (by omega), List.append_nil]), rows_eq (by rw [sR, if_pos (by omega)]; exact congrArg (fun r => _ ++ r) (cut_dp (by omega))), trivial⟩ rfl rfl⟩
          | exact ⟨i + 1, by omega, by omega, Wk_tmpl [(18000, 41000), (20000, 67000)] ⟨rfl, rfl, rfl, rfl, rfl, rfl, rfl, rfl, int_eq (by omega), rfl, rfl, rfl, trivial⟩ ⟨rfl, rows_eq (sH.trans (by rw [if_pos (by omega)]; rfl)).symm, rows_eq (by rw [sT, if_neg (by omega), List.append_nil]), rows_eq (by rw [sL, if_pos (by omega)]; exact congrArg (fun r => _ ++ r) (cut_tk (by omega))), rows_eq (by rw [sR, if_neg (by omega), List.append_nil]), trivial⟩ rfl rfl⟩
          | exact ⟨i + 1, by omega, by omega, Wk_tmpl [(18000, 41000), (20000, 67000), (21000, 89000)] ⟨rfl, rfl, rfl, rfl, rfl, rfl, rfl, rfl, int_eq (by omega), rfl, rfl, rfl, trivial⟩ ⟨rfl, rows_eq (sH.trans (by rw [if_pos (by omega)]; rfl)).symm, rows_eq (by rw [sT, if_neg (by omega), List.append_nil]), rows_eq (by rw [sL, if_pos (by omega)]; exact congrArg (fun r => _ ++ r) (cut_tk (by omega))), rows_eq (by rw [sR, if_pos (by omega)]; exact congrArg (fun r => _ ++ r) (cut_dp (by omega))), trivial⟩ rfl rfl⟩
          | exact ⟨i + 1, by omega, by omega, Wk_tmpl [(19000, 51000)] ⟨rfl, rfl, rfl, rfl, rfl, rfl, rfl, rfl, int_eq (by omega), rfl, rfl, rfl, trivial⟩ ⟨rfl, rows_eq (by rw [sH, if_neg (by omega), List.append_nil]), rows_eq (sT.trans (by rw [if_pos (by omega)]; rfl)).symm, rows_eq (by rw [sL, if_neg (by omega), List.append_nil]), rows_eq (by rw [sR, if_neg (by omega), List.append_nil]), trivial⟩ rfl rfl⟩
          | exact ⟨i + 1, by omega, by omega, Wk_tmpl [(19000, 51000), (21000, 89000)] ⟨rfl, rfl, rfl, rfl, rfl, rfl, rfl, rfl, int_eq (by omega), rfl, rfl, rfl, trivial⟩ ⟨rfl, rows_eq (by rw [sH, if_neg (by omega), List.append_nil]), rows_eq (sT.trans (by rw [if_pos (by omega)]; rfl)).symm, rows_eq (by rw [sL, if_neg (by omega), List.append_nil]), rows_eq (by rw [sR, if_pos (by omega)]; exact congrArg (fun r => _ ++ r) (cut_dp (by omega))), trivial⟩ rfl rfl⟩
          | exact ⟨i + 1, by omega, by omega, Wk_tmpl [(19000, 51000), (20000, 67000)] ⟨rfl, rfl, rfl, rfl, rfl, rfl, rfl, rfl, int_eq (by omega), rfl, rfl, rfl, trivial⟩ ⟨rfl, rows_eq (by rw [sH, if_neg (by omega), List.append_nil]), rows_eq (sT.trans (by rw [if_pos (by omega)]; rfl)).symm, rows_eq (by rw [sL, if_pos (by omega)]; exact congrArg (fun r => _ ++ r) (cut_tk (by omega))), rows_eq (by rw [sR, if_neg (by omega), List.append_nil]), trivial⟩ rfl rfl⟩
          | exact ⟨i + 1, by omega, by omega, Wk_tmpl [(19000, 51000), (20000, 67000), (21000, 89000)] ⟨rfl, rfl, rfl, rfl, rfl, rfl, rfl, rfl, int_eq (by omega), rfl, rfl, rfl, trivial⟩ ⟨rfl, rows_eq (by rw [sH, if_neg (by omega), List.append_nil]), rows_eq (sT.trans (by rw [if_pos (by omega)]; rfl)).symm, rows_eq (by rw [sL, if_pos (by omega)]; exact congrArg (fun r => _ ++ r) (cut_tk (by omega))), rows_eq (by rw [sR, if_pos (by omega)]; exact congrArg (fun r => _ ++ r) (cut_dp (by omega))), trivial⟩ rfl rfl⟩
      all_goals try simp only [hd, cond_true, cond_false, decide_eq_true_eq, decide_eq_false_iff_not] at *
      all_goals have hk1 : @List.length Ty.u8.T d = k := hk
      all_goals first
        | (show (_ : Int) ≤ (_ : Int); omega)
        | (show (_ + List.length (cut none _ d)) * 1 ≤ (_ : Nat); have := cut_le2 none (some ((a : Int) - ((cs.take i).flatten.length : Nat))) d; omega)
        | (show _ + List.length (cut none _ d) ≤ (_ : Nat); have := cut_le2 none (some ((a : Int) - ((cs.take i).flatten.length : Nat))) d; unfold maxLen; omega)
        | (show (_ + List.length (cut _ none d)) * 1 ≤ (_ : Nat); have := cut_le2 (some ((a : Int) + (c : Int) - ((cs.take i).flatten.length : Nat))) none d; omega)
        | (show _ + List.length (cut _ none d) ≤ (_ : Nat); have := cut_le2 (some ((a : Int) + (c : Int) - ((cs.take i).flatten.length : Nat))) none d; unfold maxLen; omega)
        | (show _ + 1 ≤ (_ : Nat); unfold maxLen; omega)
        | (show (_ + 1) * 24 ≤ (_ : Nat); omega)
        | exact ⟨i + 1, by omega, by omega, Wk_tmpl [] ⟨rfl, rfl, rfl, rfl, rfl, rfl, rfl, rfl, int_eq (by omega), rfl, rfl, rfl, trivial⟩ ⟨rfl, rows_eq (by rw [sH, if_neg (by omega), List.append_nil]), rows_eq (by rw [sT, if_neg (by omega), List.append_nil]), rows_eq (by rw [sL, if_neg (by omega), List.append_nil]), rows_eq (by rw [sR, if_neg (by omega), List.append_nil]), trivial⟩ rfl rfl⟩
        | exact ⟨i + 1, by omega, by omega, Wk_tmpl [(21000, 89000)] ⟨rfl, rfl, rfl, rfl, rfl, rfl, rfl, rfl, int_eq (by omega), rfl, rfl, rfl, trivial⟩ ⟨rfl, rows_eq (by rw [sH, if_neg (by omega), List.append_nil]), rows_eq (by rw [sT, if_neg (by omega), List.append_nil]), rows_eq (by rw [sL, if_neg (by omega), List.append_nil]), rows_eq (by rw [sR, if_pos (by omega)]; exact congrArg (fun r => _ ++ r) (cut_dp (by omega))), trivial⟩ rfl rfl⟩
        | exact ⟨i + 1, by omega, by omega, Wk_tmpl [(20000, 67000)] ⟨rfl, rfl, rfl, rfl, rfl, rfl, rfl, rfl, int_eq (by omega), rfl, rfl, rfl, trivial⟩ ⟨rfl, rows_eq (by rw [sH, if_neg (by omega), List.append_nil]), rows_eq (by rw [sT, if_neg (by omega), List.append_nil]), rows_eq (by rw [sL, if_pos (by omega)]; exact congrArg (fun r => _ ++ r) (cut_tk (by omega))), rows_eq (by rw [sR, if_neg (by omega), List.append_nil]), trivial⟩ rfl rfl⟩
        | exact ⟨i + 1, by omega, by omega, Wk_tmpl [(20000, 67000), (21000, 89000)] ⟨rfl, rfl, rfl, rfl, rfl, rfl, rfl, rfl, int_eq (by omega), rfl, rfl, rfl, trivial⟩ ⟨rfl, rows_eq (by rw [sH, if_neg (by omega), List.append_nil]), rows_eq (by rw [sT, if_neg (by omega), List.append_nil]), rows_eq (by rw [sL, if_pos (by omega)]; exact congrArg (fun r => _ ++ r) (cut_tk (by omega))), rows_eq (by rw [sR, if_pos (by omega)]; exact congrArg (fun r => _ ++ r) (cut_dp (by omega))), trivial⟩ rfl rfl⟩
        | exact ⟨i + 1, by omega, by omega, Wk_tmpl [(18000, 41000)] ⟨rfl, rfl, rfl, rfl, rfl, rfl, rfl, rfl, int_eq (by omega), rfl, rfl, rfl, trivial⟩ ⟨rfl, rows_eq (sH.trans (by rw [if_pos (by omega)]; rfl)).symm, rows_eq (by rw [sT, if_neg (by omega), List.append_nil]), rows_eq (by rw [sL, if_neg (by omega), List.append_nil]), rows_eq (by rw [sR, if_neg (by omega), List.append_nil]), trivial⟩ rfl rfl⟩
        | exact ⟨i + 1, by omega, by omega, Wk_tmpl [(18000, 41000), (21000, 89000)] ⟨rfl, rfl, rfl, rfl, rfl, rfl, rfl, rfl, int_eq (by omega), rfl, rfl, rfl, trivial⟩ ⟨rfl, rows_eq (sH.trans (by rw [if_pos (by omega)]; rfl)).symm, rows_eq (by rw [sT, if_neg (by omega), List.append_nil]), rows_eq (by rw [sL, if_neg (by omega), List.append_nil]), rows_eq (by rw [sR, if_pos (by omega)]; exact congrArg (fun r => _ ++ r) (cut_dp (by omega))), trivial⟩ rfl rfl⟩
        | exact ⟨i + 1, by omega, by omega, Wk_tmpl [(18000, 41000), (20000, 67000)] ⟨rfl, rfl, rfl, rfl, rfl, rfl, rfl, rfl, int_eq (by omega), rfl, rfl, rfl, trivial⟩ ⟨rfl, rows_eq (sH.trans (by rw [if_pos (by omega)]; rfl)).symm, rows_eq (by rw [sT, if_neg (by omega), List.append_nil]), rows_eq (by rw [sL, if_pos (by omega)]; exact congrArg (fun r => _ ++ r) (cut_tk (by omega))), rows_eq (by rw [sR, if_neg (by omega), List.append_nil]), trivial⟩ rfl rfl⟩
        | exact ⟨i + 1, by omega, by omega, Wk_tmpl [(18000, 41000), (20000, 67000), (21000, 89000)] ⟨rfl, rfl, rfl, rfl, rfl, rfl, rfl, rfl, int_eq (by omega), rfl, rfl, rfl, trivial⟩ ⟨rfl, rows_eq (sH.trans (by rw [if_pos (by omega)]; rfl)).symm, rows_eq (by rw [sT, if_neg (by omega), List.append_nil]), rows_eq (by rw [sL, if_pos (by omega)]; exact congrArg (fun r => _ ++ r) (cut_tk (by omega))), rows_eq (by rw [sR, if_pos (by omega)]; exact congrArg (fun r => _ ++ r) (cut_dp (by omega))), trivial⟩ rfl rfl⟩
        | exact ⟨i + 1, by omega, by omega, Wk_tmpl [(19000, 51000)] ⟨rfl, rfl, rfl, rfl, rfl, rfl, rfl, rfl, int_eq (by omega), rfl, rfl, rfl, trivial⟩ ⟨rfl, rows_eq (by rw [sH, if_neg (by omega), List.append_nil]), rows_eq (sT.trans (by rw [if_pos (by omega)]; rfl)).symm, rows_eq (by rw [sL, if_neg (by omega), List.append_nil]), rows_eq (by rw [sR, if_neg (by omega), List.append_nil]), trivial⟩ rfl rfl⟩
        | exact ⟨i + 1, by omega, by omega, Wk_tmpl [(19000, 51000), (21000, 89000)] ⟨rfl, rfl, rfl, rfl, rfl, rfl, rfl, rfl, int_eq (by omega), rfl, rfl, rfl, trivial⟩ ⟨rfl, rows_eq (by rw [sH, if_neg (by omega), List.append_nil]), rows_eq (sT.trans (by rw [if_pos (by omega)]; rfl)).symm, rows_eq (by rw [sL, if_neg (by omega), List.append_nil]), rows_eq (by rw [sR, if_pos (by omega)]; exact congrArg (fun r => _ ++ r) (cut_dp (by omega))), trivial⟩ rfl rfl⟩
        | exact ⟨i + 1, by omega, by omega, Wk_tmpl [(19000, 51000), (20000, 67000)] ⟨rfl, rfl, rfl, rfl, rfl, rfl, rfl, rfl, int_eq (by omega), rfl, rfl, rfl, trivial⟩ ⟨rfl, rows_eq (by rw [sH, if_neg (by omega), List.append_nil]), rows_eq (sT.trans (by rw [if_pos (by omega)]; rfl)).symm, rows_eq (by rw [sL, if_pos (by omega)]; exact congrArg (fun r => _ ++ r) (cut_tk (by omega))), rows_eq (by rw [sR, if_neg (by omega), List.append_nil]), trivial⟩ rfl rfl⟩
        | exact ⟨i + 1, by omega, by omega, Wk_tmpl [(19000, 51000), (20000, 67000), (21000, 89000)] ⟨rfl, rfl, rfl, rfl, rfl, rfl, rfl, rfl, int_eq (by omega), rfl, rfl, rfl, trivial⟩ ⟨rfl, rows_eq (by rw [sH, if_neg (by omega), List.append_nil]), rows_eq (sT.trans (by rw [if_pos (by omega)]; rfl)).symm, rows_eq (by rw [sL, if_pos (by omega)]; exact congrArg (fun r => _ ++ r) (cut_tk (by omega))), rows_eq (by rw [sR, if_pos (by omega)]; exact congrArg (fun r => _ ++ r) (cut_dp (by omega))), trivial⟩ rfl rfl⟩
    · have e : i = cs.length := by omega
      subst e
      rw [List.take_length]
      refine W.weak (Wk_freeze (o := 20000) rfl) ?_
      refine W.weak (Wk_slot (t := 11) (ty := .sl .u8) (x := rpL a 0 cs) rfl rfl rfl) ?_
      refine W.weak (Wk_freeze (o := 21000) rfl) ?_
      refine W.weak (Wk_slot (t := 12) (ty := .sl .u8) (x := rpR (a + c) 0 cs) rfl rfl rfl) ?_
      refine W.weak (Wk_freeze (o := 18000) rfl) ?_
      refine W.weak (Wk_slot (t := 9) (ty := .sl TCh) (x := rpH a 0 cs) rfl rfl rfl) ?_
      refine W.weak (Wk_freeze (o := 19000) rfl) ?_
      refine W.weak (Wk_slot (t := 10) (ty := .sl TCh) (x := rpT (a + c) 0 cs) rfl rfl rfl) ?_
      have hc := concat_ok [rpL a 0 cs, put, rpR (a + c) 0 cs] (by simp) (by
        have h1 := rpL_len (a := a) (cs := cs) (f := 0)
        have h2 := rpR_len (a := a + c) (cs := cs) (f := 0)
        simp only [sumL, List.flatten_cons, List.flatten_nil, List.append_nil, List.length_append]; omega)
      have e1 : [rpL a 0 cs, put, rpR (a + c) 0 cs].flatten = rpL a 0 cs ++ put ++ rpR (a + c) 0 cs := by simp
      rw [e1] at hc
      have hm := hE.mid
      have hml := tokM_len hm
      have ho := ichunksof_ok _ _ (chunks_ch hm) (tok_vld hm) (by omega)
      have ho2 := ho.frz rfl
      have h1 := rpH_len (a := a) (cs := cs) (f := 0)
      have h2 := rpT_len (a := a + c) (cs := cs) (f := 0)
      have h3 := (chunks_ch hm).len
      have e2 : [rpH a 0 cs, chunksM (rpL a 0 cs ++ put ++ rpR (a + c) 0 cs), rpT (a + c) 0 cs].flatten = ropeE cs a (a + c) put := by simp [ropeE]
      have hcc := (concatC_ok [rpH a 0 cs, chunksM (rpL a 0 cs ++ put ++ rpR (a + c) 0 cs), rpT (a + c) 0 cs] (by simp) (by
        simp only [sumG, List.flatten_cons, List.flatten_nil, List.append_nil, List.length_append]; omega)).frz rfl
      rw [e2] at hcc
      have hcp := ircopied_ok (ropeE cs a (a + c) put) (Nat.le_trans hE.rp.l (by decide)) (Nat.le_trans hE.rp.len (by decide))
      have zE1 := fun (zh : True) => hc
      refine stp ?_ ?_ ?_ ?_ ?_ ?_ ?_ ?_ ?_ ?_ ?_ ?_ ?_ ?_ ?_ ?_ <;> (first | exact Mk.mk | exact trivial | (repeat intro hq))
      refine OpW_weak (Wk_freeze (o := 97000) rfl) ?_
      have zD1 := fun (zh : True) => ho2
      refine stp ?_ ?_ ?_ ?_ ?_ ?_ ?_ ?_ ?_ ?_ ?_ ?_ ?_ ?_ ?_ ?_ <;> (first | exact Mk.mk | exact trivial | (repeat intro hq))
      refine OpW_weak (Wk_freeze (o := 100000) rfl) ?_
      have zD1 := fun (zh : True) => hcc
      have zD2 := fun (zh : True) => hcp
      refine stp ?_ ?_ ?_ ?_ ?_ ?_ ?_ ?_ ?_ ?_ ?_ ?_ ?_ ?_ ?_ ?_ <;> (first | exact Mk.mk | exact trivial | (repeat intro hq))
end Go.LX

set_option linter.unusedVariables false
set_option linter.unusedSimpArgs false
namespace Go.LX
open Go.Proofs
attribute [local irreducible] W WO OpW RW EndQ
set_option maxHeartbeats 4000000 in
set_option maxRecDepth 20000 in
theorem sl04copy_ok (cs : List (List UInt8)) (hn : cs.length ≤ 16777216) (hl : ∀ d ∈ cs, d.length ≤ 16777216) : FnC Tryd.prog 48 [aChs cs] [aX] (.one (oChs cs)) := by
  refine FnC_of (fn := Tryd.f48) Tryd.func48 rfl rfl rfl ?_
  refine stp ?_ ?_ ?_ ?_ ?_ ?_ ?_ ?_ ?_ ?_ ?_ ?_ ?_ ?_ ?_ ?_ <;> (first | exact Mk.mk | exact trivial | (repeat intro hq))
  refine W.weak (Wk_deep (q := 6000) rfl (.inr rfl)) ?_
  refine W_loopT (fun i : Nat => St.tmpl 24 [(0, .one (.d (.sl TCh) cs)), (3, .one (.rf 6000 .ar)), (4, .one (.d (.i .i64) (i : Int)))] [(6000, .rows 78 TCh true (cs.take i))]) (fun i => i ≤ cs.length) (fun i => cs.length - i) 0 (Nat.zero_le _) (Wk_tmpl [] ⟨rfl, rfl, rfl, trivial⟩ ⟨rfl, trivial⟩ rfl rfl) ?_
  intro i hi
  have l5 : (cs.take i).length = i := by rw [List.length_take]; omega
  have hwi : i < cs.length → (cs.getD (i : Int).toNat (dflt TCh)).length ≤ 16777216 := fun h => by
    show (cs.getD i (dflt TCh)).length ≤ _
    rw [List.getD_eq_getElem?_getD, List.getElem?_eq_getElem h]
    exact hl _ (List.getElem_mem h)
  refine stp ?_ ?_ ?_ ?_ ?_ ?_ ?_ ?_ ?_ ?_ ?_ ?_ ?_ ?_ ?_ ?_ <;> (first | exact Mk.mk | exact trivial | (repeat intro hq))
  all_goals first
    | (have hlt : i < cs.length := by have := of_decide_eq_true hq; omega
       exact ⟨i + 1, by omega, by omega, Wk_tmpl [(6000, 23000)] ⟨rfl, rfl, rfl, trivial⟩ ⟨congrArg (fun r => some (Ob.rows 78 TCh true r)) (take_one hlt (dflt TCh)).symm, trivial⟩ rfl rfl⟩)
    | (have := hwi (by have := of_decide_eq_true hq; omega)
       show 0 + (cs.getD (i : Int).toNat (dflt TCh)).length ≤ maxLen
       unfold maxLen; omega)
    | (show (cs.take i).length + 1 ≤ maxLen; unfold maxLen; omega)
    | (have : ¬ (i : Int) < (cs.length : Int) := of_decide_eq_false hq
       rw [List.take_of_length_le (by omega)])
set_option maxHeartbeats 4000000 in
set_option maxRecDepth 20000 in
theorem ropeok_ok (cs : List (List UInt8)) (hn : cs.length ≤ 16777216) (hl : ∀ d ∈ cs, d.length ≤ 16777216) : FnC Tryd.prog 29 [.ag [sChs cs]] [.ag [.any]] (.one (sB (chK cs 0))) := by
  refine FnC_of (fn := Tryd.f29) Tryd.func29 rfl rfl rfl ?_
  have zD1 := fun (zh : True) => chunksok_ok cs hn hl
  refine stp ?_ ?_ ?_ ?_ ?_ ?_ ?_ ?_ ?_ ?_ ?_ ?_ ?_ ?_ ?_ ?_ <;> (first | exact Mk.mk | exact trivial | (repeat intro hq))
noncomputable def l04M (cs : List (List UInt8)) (a : Int) : Bool := chK cs 0 && decide (0 ≤ rtM (chT cs) a)
set_option maxHeartbeats 4000000 in
set_option maxRecDepth 20000 in
theorem l04cut_ok (cs : List (List UInt8)) (a : Int) (hn : cs.length ≤ 16777216) (hl : ∀ d ∈ cs, d.length ≤ 16777216) : FnC Tryd.prog 45 [aRp cs, aI a] [aRp0, aX] (.one (sB (l04M cs a))) := by
  have hT := chT_len (cs := cs)
  refine FnC_of (fn := Tryd.f45) Tryd.func45 rfl rfl rfl ?_
  have zD1 := fun (zh : True) => ropeok_ok cs hn hl
  have zD2 := fun (zh : True) => ropetext_ok cs hn hl
  have zE1 := fun {z0} {z1} zh => cutok_ok z0 z1 zh
  refine stp ?_ ?_ ?_ ?_ ?_ ?_ ?_ ?_ ?_ ?_ ?_ ?_ ?_ ?_ ?_ ?_ <;> (first | exact Mk.mk | exact trivial | (repeat intro hq))
  · rw [l04M, hq]; rfl
  · rw [l04M, hq]; rfl
theorem rokM_eq (cs : List (List UInt8)) (a c : Int) (put : List UInt8) : rokM cs a c put = (l04M cs a && (!decide (c < 0) && (!decide ((chT cs).length - a < c) && (decide (0 ≤ rtM (chT cs) (a + c)) && (tokM put && decide ((chT cs).length - c + put.length ≤ 400)))))) := by
  unfold rokM l04M eokM
  cases h : chK cs 0 with
  | false => rfl
  | true =>
    have ht : tokM (chT cs) = true := by rw [(rp_iff.1 h).text]; exact (rp_iff.1 h).tok
    rw [ht, Bool.true_and, Bool.true_and, Bool.true_and]
set_option maxHeartbeats 4000000 in
set_option maxRecDepth 20000 in
theorem sropeedit_no (cs : List (List UInt8)) (a c : Int) (put : List UInt8) (hn : cs.length ≤ 16777216) (hl : ∀ d ∈ cs, d.length ≤ 16777216) (hp : put.length ≤ 16777216) (h : rokM cs a c put = false) : FnC Tryd.prog 9 [aRp cs, aI a, aI c, aBy put] [aRp0, aX, aX, aX] (.tu [(true, [oChs []]), (false, [sB false])]) := by
  rw [rokM_eq] at h
  have hT := chT_len (cs := cs)
  have hT' : (chT cs).length ≤ 16777216 := by omega
  by_cases hc : l04M cs a = true
  · have h2 := hc
    simp only [l04M, Bool.and_eq_true, decide_eq_true_eq] at h2
    have h3 := cut_in hT' h2.2
    rw [hc, Bool.true_and] at h
    have k1 := l04cut_ok cs a hn hl
    rw [hc] at k1
    refine FnC_of (fn := Tryd.f9) Tryd.func9 rfl rfl rfl ?_
    have zD1 := fun (zh : True) => ropetext_ok cs hn hl
    have zD2 := fun (zh : True) => k1
    have zE1 := fun {z0} {z1} zh => cutok_ok z0 z1 zh
    have zD3 := fun {z0} zh => textok_ok z0 zh
    refine stp ?_ ?_ ?_ ?_ ?_ ?_ ?_ ?_ ?_ ?_ ?_ ?_ ?_ ?_ ?_ ?_ <;> (first | exact Mk.mk | exact trivial | (intros; exact hT'; done) | (intros; exact hp; done) | (repeat intro hq))
  · have k1 := l04cut_ok cs a hn hl
    rw [Bool.not_eq_true] at hc
    rw [hc] at k1
    refine FnC_of (fn := Tryd.f9) Tryd.func9 rfl rfl rfl ?_
    have zD1 := fun (zh : True) => ropetext_ok cs hn hl
    have zD2 := fun (zh : True) => k1
    refine stp ?_ ?_ ?_ ?_ ?_ ?_ ?_ ?_ ?_ ?_ ?_ ?_ ?_ ?_ ?_ ?_ <;> (first | exact Mk.mk | exact trivial | (repeat intro hq))
theorem by_eq {x y : List UInt8} (h : x = y) : SV.one (C.d (Ty.sl Ty.u8) x) = SV.one (C.d (Ty.sl Ty.u8) y) := by rw [h]
/-- Of the chunks so far: what stands ahead of the place is none, as long as it was not met. -/
theorem rpL_none {a : Nat} {cs : List (List UInt8)} : ∀ {f : Nat}, f + cs.flatten.length ≤ a → rpL a f cs = [] := by
  induction cs with
  | nil => intro f _; rfl
  | cons d r ih =>
    intro f h
    rw [List.flatten_cons, List.length_append] at h
    rw [rpL, if_neg (by omega), ih (by omega)]
    rfl
theorem rpR_none {a : Nat} {cs : List (List UInt8)} : ∀ {f : Nat}, f + cs.flatten.length ≤ a → rpR a f cs = [] := by
  induction cs with
  | nil => intro f _; rfl
  | cons d r ih =>
    intro f h
    rw [List.flatten_cons, List.length_append] at h
    rw [rpR, if_neg (by omega), ih (by omega)]
    rfl
set_option maxHeartbeats 4000000 in
set_option maxRecDepth 20000 in
theorem sropeedit_yes (cs : List (List UInt8)) (a c : Nat) (put : List UInt8) (h : rokM cs a c put = true) (hp : put.length ≤ 16777216) : FnC Tryd.prog 9 [aRp cs, aI a, aI c, aBy put] [aRp0, aX, aX, aX] (.tu [(true, [oChs (ropeE cs a (a + c) put)]), (false, [sB true])]) := by
  obtain ⟨hR, _, hE⟩ := rope_edit h
  rw [show ((a : Int) + (c : Int)).toNat = a + c by omega, show ((a : Int)).toNat = a by omega] at hE
  have hn := hR.len
  have hl : ∀ d ∈ cs, d.length ≤ 16777216 := fun d hd => Nat.le_trans (hR.s d hd) (by decide)
  have hb := hE.bl
  have hfl := hR.l
  rw [rokM_eq] at h
  simp only [Bool.and_eq_true, decide_eq_true_eq, Bool.not_eq_true', decide_eq_false_iff_not] at h
  obtain ⟨g1, g2, g3, g4, g5, g6⟩ := h
  have eT := hR.text
  rw [eT] at g3 g4 g6
  have k1 := l04cut_ok cs a (by omega) hl
  rw [g1] at k1
  have k2 := ropetext_ok cs (by omega) hl
  rw [eT] at k2
  have k3 := cutok_ok cs.flatten ((a : Int) + (c : Int)) (by omega)
  rw [decide_eq_true g4] at k3
  have k4 := textok_ok put hp
  rw [g5] at k4
  have hpl := tokM_len g5
  refine FnC_of (fn := Tryd.f9) Tryd.func9 rfl rfl rfl ?_
  have zD1 := fun (zh : True) => k2
  have zD2 := fun (zh : True) => k1
  have zE1 := fun (zh : True) => k3
  have zD3 := fun (zh : True) => k4
  refine stp ?_ ?_ ?_ ?_ ?_ ?_ ?_ ?_ ?_ ?_ ?_ ?_ ?_ ?_ ?_ ?_ <;> (first | exact Mk.mk | exact trivial | (repeat intro hq))
  refine W.weak (Wk_freeze (o := 66000) rfl) ?_
  refine W.weak (Wk_slot (t := 13) (ty := .sl .u8) (x := []) rfl rfl rfl) ?_
  refine W.weak (Wk_freeze (o := 67000) rfl) ?_
  refine W.weak (Wk_slot (t := 14) (ty := .sl .u8) (x := []) rfl rfl rfl) ?_
  refine W_loopT (fun i : Nat => St.tmpl 146 [(1, .one (.d (.i .i64) (a : Int))), (2, .one (.d (.i .i64) (c : Int))), (3, .one (.d (.sl .u8) put)), (4, .one (.rf 5000 (.pb 0))), (8, .one (.rf 9000 (.pb 0))), (11, .one (.rf 64000 .ar)), (12, .one (.rf 65000 .ar)), (13, .one (.d (.sl .u8) (rpL a 0 (cs.take i)))), (14, .one (.d (.sl .u8) (rpR (a + c) 0 (cs.take i)))), (15, .one (.d (.i .i64) ((cs.take i).flatten.length : Nat))), (16, .one (.d (.i .i64) (i : Int)))] [(5000, .cells [.d (.sl TCh) cs]), (9000, .cells [.nl]), (64000, .rows 78 TCh false (rpH a 0 (cs.take i))), (65000, .rows 78 TCh false (rpT (a + c) 0 (cs.take i)))]) (fun i => i ≤ cs.length) (fun i => cs.length - i) 0 (Nat.zero_le _) ?_ ?_
  · exact Wk_tmpl [] ⟨rfl, rfl, rfl, rfl, rfl, rfl, rfl, rfl, rfl, rfl, rfl, trivial⟩ ⟨rfl, rfl, rfl, rfl, trivial⟩ rfl rfl
  · intro i hi
    by_cases hlt : i < cs.length
    · have hfs := fl_step hlt
      have hfl := flat_take (cs := cs) (i := i + 1)
      have l1 := rpH_len (a := a) (cs := cs.take i) (f := 0)
      have l2 := rpT_len (a := a + c) (cs := cs.take i) (f := 0)
      have l5 : (cs.take i).length = i := by rw [List.length_take]; omega
      have hd0 : (cs.getD i []).length ≠ 0 := fun h0 => by
        have hm : cs.getD i [] ∈ cs := by rw [List.getD_eq_getElem?_getD, List.getElem?_eq_getElem hlt]; exact List.getElem_mem hlt
        exact hR.n _ hm (List.eq_nil_of_length_eq_zero h0)
      have sH := rpH_st (a := a) hlt
      have sL := rpL_st (a := a) hlt
      have sT := rpT_st (a := a + c) hlt
      have sR := rpR_st (a := a + c) hlt
      have nL : (cs.take i).flatten.length ≤ a → rpL a 0 (cs.take i) = [] := fun h => rpL_none (by omega)
      have nR : (cs.take i).flatten.length ≤ a + c → rpR (a + c) 0 (cs.take i) = [] := fun h => rpR_none (by omega)
      obtain ⟨d, hd⟩ : ∃ d : List UInt8, cs.getD (i : Int).toNat (dflt TCh) = d := ⟨_, rfl⟩
      have hd' : cs.getD i [] = d := hd
      rw [hd'] at sH sL sT sR hfs hd0
      clear hd'
      obtain ⟨k, hk⟩ : ∃ k : Nat, d.length = k := ⟨_, rfl⟩
      refine stp ?_ ?_ ?_ ?_ ?_ ?_ ?_ ?_ ?_ ?_ ?_ ?_ ?_ ?_ ?_ ?_ <;> (first | exact Mk.mk | exact trivial | (repeat intro hq))
      all_goals first
        | (refine OpW_weak (Wk_freeze (o := 94000) rfl) ?_
           refine stp ?_ ?_ ?_ ?_ ?_ ?_ ?_ ?_ ?_ ?_ ?_ ?_ ?_ ?_ ?_ ?_ <;> (first | exact Mk.mk | exact trivial | (repeat intro hq)))
        | (refine OpW_weak (Wk_freeze (o := 115000) rfl) ?_
           refine stp ?_ ?_ ?_ ?_ ?_ ?_ ?_ ?_ ?_ ?_ ?_ ?_ ?_ ?_ ?_ ?_ <;> (first | exact Mk.mk | exact trivial | (repeat intro hq)))
        | skip
      all_goals try simp only [hd, cond_true, cond_false, decide_eq_true_eq, decide_eq_false_iff_not] at *
      all_goals have hk1 : @List.length Ty.u8.T d = k := hk
      all_goals first
        | (exfalso; omega)
        | (show (_ : Int) ≤ (_ : Int); omega)
        | (show _ + 1 ≤ (_ : Nat); unfold maxLen; omega)
        | (show (_ + 1) * 24 ≤ (_ : Nat); omega)
        | exact ⟨i + 1, by omega, by omega, Wk_tmpl [] ⟨rfl, rfl, rfl, rfl, rfl, rfl, rfl, by_eq (by rw [sL, if_neg (by omega), List.append_nil]), by_eq (by rw [sR, if_neg (by omega), List.append_nil]), int_eq (by omega), rfl, trivial⟩ ⟨rfl, rfl, rows_eq (by rw [sH, if_neg (by omega), List.append_nil]), rows_eq (by rw [sT, if_neg (by omega), List.append_nil]), trivial⟩ rfl rfl⟩
        | exact ⟨i + 1, by omega, by omega, Wk_tmpl [] ⟨rfl, rfl, rfl, rfl, rfl, rfl, rfl, by_eq (by rw [sL, if_neg (by omega), List.append_nil]), by_eq (by rw [sR, if_pos (by omega), nR (by omega), List.nil_append]; exact cut_dp (by omega)), int_eq (by omega), rfl, trivial⟩ ⟨rfl, rfl, rows_eq (by rw [sH, if_neg (by omega), List.append_nil]), rows_eq (by rw [sT, if_neg (by omega), List.append_nil]), trivial⟩ rfl rfl⟩
        | exact ⟨i + 1, by omega, by omega, Wk_tmpl [] ⟨rfl, rfl, rfl, rfl, rfl, rfl, rfl, by_eq (by rw [sL, if_pos (by omega), nL (by omega), List.nil_append]; exact cut_tk (by omega)), by_eq (by rw [sR, if_neg (by omega), List.append_nil]), int_eq (by omega), rfl, trivial⟩ ⟨rfl, rfl, rows_eq (by rw [sH, if_neg (by omega), List.append_nil]), rows_eq (by rw [sT, if_neg (by omega), List.append_nil]), trivial⟩ rfl rfl⟩
        | exact ⟨i + 1, by omega, by omega, Wk_tmpl [] ⟨rfl, rfl, rfl, rfl, rfl, rfl, rfl, by_eq (by rw [sL, if_pos (by omega), nL (by omega), List.nil_append]; exact cut_tk (by omega)), by_eq (by rw [sR, if_pos (by omega), nR (by omega), List.nil_append]; exact cut_dp (by omega)), int_eq (by omega), rfl, trivial⟩ ⟨rfl, rfl, rows_eq (by rw [sH, if_neg (by omega), List.append_nil]), rows_eq (by rw [sT, if_neg (by omega), List.append_nil]), trivial⟩ rfl rfl⟩
        | exact ⟨i + 1, by omega, by omega, Wk_tmpl [(65000, 116000)] ⟨rfl, rfl, rfl, rfl, rfl, rfl, rfl, by_eq (by rw [sL, if_neg (by omega), List.append_nil]), by_eq (by rw [sR, if_neg (by omega), List.append_nil]), int_eq (by omega), rfl, trivial⟩ ⟨rfl, rfl, rows_eq (by rw [sH, if_neg (by omega), List.append_nil]), rows_eq (sT.trans (by rw [if_pos (by omega)]; rfl)).symm, trivial⟩ rfl rfl⟩
        | exact ⟨i + 1, by omega, by omega, Wk_tmpl [(65000, 116000)] ⟨rfl, rfl, rfl, rfl, rfl, rfl, rfl, by_eq (by rw [sL, if_neg (by omega), List.append_nil]), by_eq (by rw [sR, if_pos (by omega), nR (by omega), List.nil_append]; exact cut_dp (by omega)), int_eq (by omega), rfl, trivial⟩ ⟨rfl, rfl, rows_eq (by rw [sH, if_neg (by omega), List.append_nil]), rows_eq (sT.trans (by rw [if_pos (by omega)]; rfl)).symm, trivial⟩ rfl rfl⟩
        | exact ⟨i + 1, by omega, by omega, Wk_tmpl [(65000, 116000)] ⟨rfl, rfl, rfl, rfl, rfl, rfl, rfl, by_eq (by rw [sL, if_pos (by omega), nL (by omega), List.nil_append]; exact cut_tk (by omega)), by_eq (by rw [sR, if_neg (by omega), List.append_nil]), int_eq (by omega), rfl, trivial⟩ ⟨rfl, rfl, rows_eq (by rw [sH, if_neg (by omega), List.append_nil]), rows_eq (sT.trans (by rw [if_pos (by omega)]; rfl)).symm, trivial⟩ rfl rfl⟩
        | exact ⟨i + 1, by omega, by omega, Wk_tmpl [(65000, 116000)] ⟨rfl, rfl, rfl, rfl, rfl, rfl, rfl, by_eq (by rw [sL, if_pos (by omega), nL (by omega), List.nil_append]; exact cut_tk (by omega)), by_eq (by rw [sR, if_pos (by omega), nR (by omega), List.nil_append]; exact cut_dp (by omega)), int_eq (by omega), rfl, trivial⟩ ⟨rfl, rfl, rows_eq (by rw [sH, if_neg (by omega), List.append_nil]), rows_eq (sT.trans (by rw [if_pos (by omega)]; rfl)).symm, trivial⟩ rfl rfl⟩
        | exact ⟨i + 1, by omega, by omega, Wk_tmpl [(64000, 95000)] ⟨rfl, rfl, rfl, rfl, rfl, rfl, rfl, by_eq (by rw [sL, if_neg (by omega), List.append_nil]), by_eq (by rw [sR, if_neg (by omega), List.append_nil]), int_eq (by omega), rfl, trivial⟩ ⟨rfl, rfl, rows_eq (sH.trans (by rw [if_pos (by omega)]; rfl)).symm, rows_eq (by rw [sT, if_neg (by omega), List.append_nil]), trivial⟩ rfl rfl⟩
        | exact ⟨i + 1, by omega, by omega, Wk_tmpl [(64000, 95000)] ⟨rfl, rfl, rfl, rfl, rfl, rfl, rfl, by_eq (by rw [sL, if_neg (by omega), List.append_nil]), by_eq (by rw [sR, if_pos (by omega), nR (by omega), List.nil_append]; exact cut_dp (by omega)), int_eq (by omega), rfl, trivial⟩ ⟨rfl, rfl, rows_eq (sH.trans (by rw [if_pos (by omega)]; rfl)).symm, rows_eq (by rw [sT, if_neg (by omega), List.append_nil]), trivial⟩ rfl rfl⟩
        | exact ⟨i + 1, by omega, by omega, Wk_tmpl [(64000, 95000)] ⟨rfl, rfl, rfl, rfl, rfl, rfl, rfl, by_eq (by rw [sL, if_pos (by omega), nL (by omega), List.nil_append]; exact cut_tk (by omega)), by_eq (by rw [sR, if_neg (by omega), List.append_nil]), int_eq (by omega), rfl, trivial⟩ ⟨rfl, rfl, rows_eq (sH.trans (by rw [if_pos (by omega)]; rfl)).symm, rows_eq (by rw [sT, if_neg (by omega), List.append_nil]), trivial⟩ rfl rfl⟩
        | exact ⟨i + 1, by omega, by omega, Wk_tmpl [(64000, 95000)] ⟨rfl, rfl, rfl, rfl, rfl, rfl, rfl, by_eq (by rw [sL, if_pos (by omega), nL (by omega), List.nil_append]; exact cut_tk (by omega)), by_eq (by rw [sR, if_pos (by omega), nR (by omega), List.nil_append]; exact cut_dp (by omega)), int_eq (by omega), rfl, trivial⟩ ⟨rfl, rfl, rows_eq (sH.trans (by rw [if_pos (by omega)]; rfl)).symm, rows_eq (by rw [sT, if_neg (by omega), List.append_nil]), trivial⟩ rfl rfl⟩
        | exact ⟨i + 1, by omega, by omega, Wk_tmpl [(64000, 95000), (65000, 116000)] ⟨rfl, rfl, rfl, rfl, rfl, rfl, rfl, by_eq (by rw [sL, if_neg (by omega), List.append_nil]), by_eq (by rw [sR, if_neg (by omega), List.append_nil]), int_eq (by omega), rfl, trivial⟩ ⟨rfl, rfl, rows_eq (sH.trans (by rw [if_pos (by omega)]; rfl)).symm, rows_eq (sT.trans (by rw [if_pos (by omega)]; rfl)).symm, trivial⟩ rfl rfl⟩
        | exact ⟨i + 1, by omega, by omega, Wk_tmpl [(64000, 95000), (65000, 116000)] ⟨rfl, rfl, rfl, rfl, rfl, rfl, rfl, by_eq (by rw [sL, if_neg (by omega), List.append_nil]), by_eq (by rw [sR, if_pos (by omega), nR (by omega), List.nil_append]; exact cut_dp (by omega)), int_eq (by omega), rfl, trivial⟩ ⟨rfl, rfl, rows_eq (sH.trans (by rw [if_pos (by omega)]; rfl)).symm, rows_eq (sT.trans (by rw [if_pos (by omega)]; rfl)).symm, trivial⟩ rfl rfl⟩
        | exact ⟨i + 1, by omega, by omega, Wk_tmpl [(64000, 95000), (65000, 116000)] ⟨rfl, rfl, rfl, rfl, rfl, rfl, rfl, by_eq (by rw [sL, if_pos (by omega), nL (by omega), List.nil_append]; exact cut_tk (by omega)), by_eq (by rw [sR, if_neg (by omega), List.append_nil]), int_eq (by omega), rfl, trivial⟩ ⟨rfl, rfl, rows_eq (sH.trans (by rw [if_pos (by omega)]; rfl)).symm, rows_eq (sT.trans (by rw [if_pos (by omega)]; rfl)).symm, trivial⟩ rfl rfl⟩
        | exact ⟨i + 1, by omega, by omega, Wk_tmpl [(64000, 95000), (65000, 116000)] ⟨rfl, rfl, rfl, rfl, rfl, rfl, rfl, by_eq (by rw [sL, if_pos (by omega), nL (by omega), List.nil_append]; exact cut_tk (by omega)), by_eq (by rw [sR, if_pos (by omega), nR (by omega), List.nil_append]; exact cut_dp (by omega)), int_eq (by omega), rfl, trivial⟩ ⟨rfl, rfl, rows_eq (sH.trans (by rw [if_pos (by omega)]; rfl)).symm, rows_eq (sT.trans (by rw [if_pos (by omega)]; rfl)).symm, trivial⟩ rfl rfl⟩
    · have e : i = cs.length := by omega
      subst e
      rw [List.take_length]
      have hm := hE.mid
      have hml := tokM_len hm
      have ho := chunksof_ok (rpL a 0 cs ++ put ++ rpR (a + c) 0 cs) (by omega)
      have h1 := rpH_len (a := a) (cs := cs) (f := 0)
      have h2 := rpT_len (a := a + c) (cs := cs) (f := 0)
      have h3 := (chunks_ch hm).len
      have hc1 := sl04copy_ok (rpH a 0 cs) (by omega) (fun d hd => hl d (rpH_mem d hd))
      have hc2 := sl04copy_ok (rpT (a + c) 0 cs) (by omega) (fun d hd => hl d (rpT_mem d hd))
      have b1 := rpL_len (a := a) (cs := cs) (f := 0)
      have b2 := rpR_len (a := a + c) (cs := cs) (f := 0)
      have zE1 := fun (zh : True) => ho
      have zE2 := fun (zh : True) => hc1
      have zE3 := fun (zh : True) => hc2
      refine stp ?_ ?_ ?_ ?_ ?_ ?_ ?_ ?_ ?_ ?_ ?_ ?_ ?_ ?_ ?_ ?_ <;> (first | exact Mk.mk | exact trivial | (repeat intro hq))
      all_goals (show (_ : Nat) ≤ maxLen; simp only [List.length_append, List.length_nil]; unfold maxLen; omega)
end Go.LX

set_option linter.unusedVariables false
set_option linter.unusedSimpArgs false
namespace Go.LX
open Go.Proofs
attribute [local irreducible] W WO OpW RW EndQ
/-- What an edit of a rope hands back. -/
noncomputable def ropeR (cs : List (List UInt8)) (a c : Int) (put : List UInt8) : List (List UInt8) := if rokM cs a c put = true then ropeE cs a.toNat (a + c).toNat put else []
theorem sropeedit_ok (cs : List (List UInt8)) (a c : Int) (put : List UInt8) (hn : cs.length ≤ 16777216) (hl : ∀ d ∈ cs, d.length ≤ 16777216) (hp : put.length ≤ 16777216) : FnC Tryd.prog 9 [aRp cs, aI a, aI c, aBy put] [aRp0, aX, aX, aX] (.tu [(true, [oChs (ropeR cs a c put)]), (false, [sB (rokM cs a c put)])]) := by
  cases h : rokM cs a c put with
  | false => rw [ropeR, if_neg (by rw [h]; simp)]; exact sropeedit_no cs a c put hn hl hp h
  | true =>
    rw [ropeR, if_pos h]
    obtain ⟨_, ⟨h1, h2⟩, _⟩ := rope_edit h
    obtain ⟨m, rfl⟩ : ∃ m : Nat, a = m := ⟨a.toNat, by omega⟩
    obtain ⟨n, rfl⟩ : ∃ n : Nat, c = n := ⟨c.toNat, by omega⟩
    rw [show ((m : Int)).toNat = m by omega, show ((m : Int) + (n : Int)).toNat = m + n by omega]
    exact sropeedit_yes cs m n put h hp
set_option maxHeartbeats 4000000 in
set_option maxRecDepth 20000 in
theorem iropeedit_no (cs : List (List UInt8)) (a c : Int) (put : List UInt8) (hn : cs.length ≤ 16777216) (hl : ∀ d ∈ cs, d.length ≤ 16777216) (hp : put.length ≤ 16777216) (h : rokM cs a c put = false) : FnC Tryd.prog 12 [aRp cs, aI a, aI c, aBy put] [aRp0, aX, aX, aX] (.tu [(true, [oChs []]), (false, [sB false])]) := by
  have k1 := irope_ok cs hn hl
  cases hc : chK cs 0 with
  | false =>
    rw [hc] at k1
    refine FnC_of (fn := Tryd.f12) Tryd.func12 rfl rfl rfl ?_
    have zD1 := fun (zh : True) => k1
    refine stp ?_ ?_ ?_ ?_ ?_ ?_ ?_ ?_ ?_ ?_ ?_ ?_ ?_ ?_ ?_ ?_ <;> (first | exact Mk.mk | exact trivial | (repeat intro hq))
  | true =>
    rw [hc] at k1
    have hR := rp_iff.1 hc
    rw [rokM, hc, Bool.true_and, hR.text] at h
    have h4 := hR.l
    have k2 := irtext_ok cs (by omega) hn
    have k3 := isedit_ok cs.flatten (a, c, put) (by omega) hp
    rw [h] at k3
    refine FnC_of (fn := Tryd.f12) Tryd.func12 rfl rfl rfl ?_
    have zD1 := fun (zh : True) => k1
    have zD2 := fun (zh : True) => k2
    have zE1 := fun (zh : True) => k3
    refine stp ?_ ?_ ?_ ?_ ?_ ?_ ?_ ?_ ?_ ?_ ?_ ?_ ?_ ?_ ?_ ?_ <;> (first | exact Mk.mk | exact trivial | (repeat intro hq))
set_option maxHeartbeats 4000000 in
set_option maxRecDepth 20000 in
theorem iropeedit_yes (cs : List (List UInt8)) (a c : Nat) (put : List UInt8) (h : rokM cs a c put = true) (hp : put.length ≤ 16777216) : FnC Tryd.prog 12 [aRp cs, aI a, aI c, aBy put] [aRp0, aX, aX, aX] (.tu [(true, [oChs (ropeE cs a (a + c) put)]), (false, [sB true])]) := by
  obtain ⟨hR, _, hE⟩ := rope_edit h
  rw [show ((a : Int) + (c : Int)).toNat = a + c by omega, show ((a : Int)).toNat = a by omega] at hE
  have hn := hR.len
  have hl : ∀ d ∈ cs, d.length ≤ 16777216 := fun d hd => Nat.le_trans (hR.s d hd) (by decide)
  have h4 := hR.l
  have k1 := irope_ok cs (by omega) hl
  rw [rp_iff.2 hR] at k1
  have k2 := irtext_ok cs (by omega) (by omega)
  have k3 := isedit_ok cs.flatten ((a : Int), (c : Int), put) (by omega) hp
  simp only [rokM, Bool.and_eq_true] at h
  rw [hR.text] at h
  rw [h.2] at k3
  have hpl := tokM_len (eok_parts h.2).2.2.2.2.1
  have k4 := iredit_ok cs a c put hR hE hpl
  refine FnC_of (fn := Tryd.f12) Tryd.func12 rfl rfl rfl ?_
  have zD1 := fun (zh : True) => k1
  have zD2 := fun (zh : True) => k2
  have zE1 := fun (zh : True) => k3
  have zD3 := fun (zh : True) => k4
  refine stp ?_ ?_ ?_ ?_ ?_ ?_ ?_ ?_ ?_ ?_ ?_ ?_ ?_ ?_ ?_ ?_ <;> (first | exact Mk.mk | exact trivial | (repeat intro hq))
theorem iropeedit_ok (cs : List (List UInt8)) (a c : Int) (put : List UInt8) (hn : cs.length ≤ 16777216) (hl : ∀ d ∈ cs, d.length ≤ 16777216) (hp : put.length ≤ 16777216) : FnC Tryd.prog 12 [aRp cs, aI a, aI c, aBy put] [aRp0, aX, aX, aX] (.tu [(true, [oChs (ropeR cs a c put)]), (false, [sB (rokM cs a c put)])]) := by
  cases h : rokM cs a c put with
  | false => rw [ropeR, if_neg (by rw [h]; simp)]; exact iropeedit_no cs a c put hn hl hp h
  | true =>
    rw [ropeR, if_pos h]
    obtain ⟨_, ⟨h1, h2⟩, _⟩ := rope_edit h
    obtain ⟨m, rfl⟩ : ∃ m : Nat, a = m := ⟨a.toNat, by omega⟩
    obtain ⟨n, rfl⟩ : ∃ n : Nat, c = n := ⟨c.toNat, by omega⟩
    rw [show ((m : Int)).toNat = m by omega, show ((m : Int) + (n : Int)).toNat = m + n by omega]
    exact iropeedit_yes cs m n put h hp
theorem ropeR_len {cs : List (List UInt8)} {a c : Int} {put : List UInt8} : (ropeR cs a c put).length ≤ 400 ∧ (ropeR cs a c put).flatten.length ≤ 400 ∧ ∀ d ∈ ropeR cs a c put, d.length ≤ 16 := by
  unfold ropeR
  split
  · rename_i h
    obtain ⟨_, _, hE⟩ := rope_edit h
    exact ⟨hE.rp.len, hE.rp.l, hE.rp.s⟩
  · simp
end Go.LX

