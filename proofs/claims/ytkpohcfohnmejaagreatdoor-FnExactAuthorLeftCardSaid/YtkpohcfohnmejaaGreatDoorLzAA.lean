/- A part of the proof of the statement in the row text. -/
import Derived.Test.YtkpohcfohnmejaaGreatDoorLzA8
import Derived.Test.YtkpohcfohnmejaaGreatDoorLxCopy
import Derived.Test.YtkpohcfohnmejaaGreatDoorLxStpL
set_option linter.unusedVariables false
set_option linter.unusedSimpArgs false
namespace Go.LX
open Go.Proofs
attribute [local irreducible] W WO OpW RW EndQ
abbrev aU (n : Int) : SA := .c (.d (.i .u64) n)
abbrev sU (n : Int) : S0 := .d (.i .u64) n
theorem iAnd_mask {n : Int} (h : 0 ≤ n ∧ n < 4294967296) : iAnd .u64 n 4294967295 = n := by
  obtain ⟨m, rfl⟩ : ∃ m : Nat, n = m := ⟨n.toNat, by omega⟩
  have key : ((BitVec.ofInt 64 (m : Int) &&& BitVec.ofInt 64 4294967295 : BitVec 64).toNat : Int) = m := by
    rw [show (4294967295 : Int) = ((4294967295 : Nat) : Int) by rfl, BitVec.ofInt_natCast, BitVec.ofInt_natCast, BitVec.toNat_and, BitVec.toNat_ofNat, BitVec.toNat_ofNat, Nat.mod_eq_of_lt (by omega), Nat.mod_eq_of_lt (by omega), show (4294967295 : Nat) = 2 ^ 32 - 1 by decide, Nat.and_two_pow_sub_one_eq_mod]
    omega
  show IntKind.u64.wrap ((BitVec.ofInt 64 (m : Int) &&& BitVec.ofInt 64 4294967295 : BitVec 64).toNat : Int) = m
  rw [key, inR_wrap]
  simp only [inR]; omega
set_option maxHeartbeats 4000000 in
set_option maxRecDepth 20000 in
theorem mul64_ok (n : Int) (h : 0 ≤ n ∧ n < 4294967296) : FnC Tryz.prog 167 [aU 1, aU n] [aX, aX] (.tu [(false, [sU 0]), (false, [sU n])]) := by
  have e1 : iAnd .u64 1 4294967295 = 1 := iAnd_mask (by omega)
  have e2 : iAnd .u64 n 4294967295 = n := iAnd_mask h
  have e0 : (2 : Int) ^ min (Int.toNat 32) IntKind.u64.bits = 4294967296 := by decide
  have e3 : n / 4294967296 = 0 := by omega
  have e4 : (1 : Int) / 4294967296 = 0 := by decide
  have e5 : iAnd .u64 0 4294967295 = 0 := iAnd_mask (by omega)
  refine FnC_of (fn := Tryz.f167) Tryz.func167 rfl rfl rfl ?_
  refine stp ?_ ?_ ?_ ?_ ?_ ?_ ?_ ?_ ?_ ?_ ?_ ?_ ?_ ?_ ?_ ?_ <;> (first | exact Mk.mk | exact trivial | (repeat intro hq))
  all_goals simp only [e0, e1, e2, e3, e4, e5, Int.zero_mul, Int.one_mul, Int.zero_add, Int.mul_zero, Int.zero_ediv]
  all_goals omega
set_option maxHeartbeats 4000000 in
set_option maxRecDepth 20000 in
theorem mul_ok (n : Int) (h : 0 ≤ n ∧ n < 4294967296) : FnC Tryz.prog 149 [aU 1, aU n] [aX, aX] (.tu [(false, [sU 0]), (false, [sU n])]) := by
  have k1 := mul64_ok n h
  refine FnC_of (fn := Tryz.f149) Tryz.func149 rfl rfl rfl ?_
  have zD1 := fun (zh : True) => k1
  refine stp ?_ ?_ ?_ ?_ ?_ ?_ ?_ ?_ ?_ ?_ ?_ ?_ ?_ ?_ ?_ ?_ <;> (first | exact Mk.mk | exact trivial | (repeat intro hq))
abbrev aIs (xs : List Int) : SA := .c (.d (.sl (.i .i64)) xs)
abbrev oIs (xs : List Int) : S0 := .own 3 (.i .i64) false xs
/-- c times v, and what stood behind. -/
def rp (v : Int) (n c : Nat) : List Int := List.replicate c v ++ List.replicate (n - c) 0
theorem rp_len {v : Int} {n c : Nat} (h : c ≤ n) : (rp v n c).length = n := by simp [rp]; omega
theorem rp_step {v : Int} {n c k : Nat} (h : c ≤ n) (hk : k = min c (n - c)) : (rp v n c).take c ++ ((rp v n c).take c).take k ++ (rp v n c).drop (c + k) = rp v n (c + k) := by
  unfold rp
  have e1 : (List.replicate c v ++ List.replicate (n - c) (0 : Int)).take c = List.replicate c v := by simp
  have e2 : (List.replicate c v ++ List.replicate (n - c) (0 : Int)).drop (c + k) = List.replicate (n - (c + k)) 0 := by
    rw [List.drop_append, List.drop_eq_nil_of_le (by simp)]; simp; omega
  rw [e1, e2, List.take_replicate, Nat.min_eq_left (by omega), List.replicate_append_replicate]
set_option maxHeartbeats 4000000 in
set_option maxRecDepth 20000 in
theorem repeat_ok (v : Int) (n : Nat) (h : n ≤ 400) : FnC Tryz.prog 106 [aIs [v], aI n] [aX, aX] (.one (oIs (List.replicate n v))) := by
  have k1 := mul_ok n (by omega)
  refine FnC_of (fn := Tryz.f106) Tryz.func106 rfl rfl rfl ?_
  have zD1 := fun (zh : True) => k1
  refine stp ?_ ?_ ?_ ?_ ?_ ?_ ?_ ?_ ?_ ?_ ?_ ?_ ?_ ?_ ?_ ?_ <;> (first | exact Mk.mk | exact trivial | (repeat intro hq))
  refine W_loopT (fun c : Nat => St.tmpl 48 [(7, .one (.rf 31000 .ar)), (8, .one (.d (.i .i64) (c : Int)))] [(31000, .rows 3 (.i .i64) false (rp v n c))]) (fun c => c ≤ n ∧ (0 < n → 0 < c)) (fun c => n - c) (min 1 n) ⟨by omega, by omega⟩ ?_ ?_
  · refine Wk_tmpl [] ⟨rfl, ?_, trivial⟩ ⟨?_, trivial⟩ rfl rfl
    · refine congrArg (fun r => SV.one (C.d (Ty.i IntKind.i64) r)) ?_
      show ((min 1 (List.replicate (n : Int).toNat (0 : Int)).length : Nat) : Int) = _
      simp
    · refine congrArg (fun r => some (Ob.rows 3 (.i .i64) false r)) ?_
      show List.take 0 (List.replicate (n : Int).toNat (0 : Int)) ++ List.take (min 1 (List.replicate (n : Int).toNat (0 : Int)).length) [v] ++ List.drop (0 + min 1 (List.replicate (n : Int).toNat (0 : Int)).length) (List.replicate (n : Int).toNat (0 : Int)) = _
      cases n with
      | zero => simp [rp]
      | succ n => simp [rp]
  · rintro c ⟨hc, hc0⟩
    have hlen := rp_len (v := v) hc
    have hm : min (List.take (cutH (some (c : Int)) (rp v n c).length - cutL none) (List.drop (cutL none) (rp v n c))).length (cutH none (rp v n c).length - cutL (some (c : Int))) = min c (n - c) := by
      simp [cutH, cutL, hlen]
    refine stp ?_ ?_ ?_ ?_ ?_ ?_ ?_ ?_ ?_ ?_ ?_ ?_ ?_ ?_ ?_ ?_ <;> (first | exact Mk.mk | exact trivial | (repeat intro hq))
    · have hlt : c < n := by simp [hlen] at hq; omega
      refine ⟨c + min c (n - c), by omega, by omega, Wk_tmpl [] ⟨rfl, ?_, trivial⟩ ⟨?_, trivial⟩ rfl rfl⟩
      · refine congrArg (fun r => SV.one (C.d (Ty.i IntKind.i64) r)) ?_
        rw [hm, Int.natCast_add]
      · refine congrArg (fun r => some (Ob.rows 3 (.i .i64) false r)) ?_
        rw [hm]
        exact rp_step (k := min c (n - c)) hc rfl
    · have e : c = n := by simp [hlen] at hq; omega
      subst e
      simp [rp]
theorem repeatI_ok (v n : Int) (h : 0 ≤ n ∧ n ≤ 400) : FnC Tryz.prog 106 [aIs [v], aI n] [aX, aX] (.one (oIs (List.replicate n.toNat v))) := by
  have := repeat_ok v n.toNat (by omega)
  rwa [show ((n.toNat : Nat) : Int) = n by omega] at this
set_option maxHeartbeats 4000000 in
set_option maxRecDepth 20000 in
theorem growI_ok (n : Int) (h : 0 ≤ n ∧ n ≤ 1000000000) : FnC Tryz.prog 150 [.nl, aI n] [aX, aX] (.one (oIs [])) := by
  refine FnC_of (fn := Tryz.f150) Tryz.func150 rfl rfl rfl ?_
  refine stpC ?_ ?_ ?_ ?_ ?_ ?_ ?_ ?_ ?_ ?_ ?_ ?_ ?_ ?_ ?_ ?_ <;> (first | exact Mk.mk | exact trivial | (repeat intro hq))
set_option maxHeartbeats 4000000 in
set_option maxRecDepth 20000 in
theorem concatI_ok (xss : List (List Int)) (hn : xss.length ≤ 1000000) (hl : sumA xss ≤ 100000000) : FnC Tryz.prog 107 [.c (.d (.sl (.sl (.i .i64))) xss)] [aX] (.one (oIs xss.flatten)) := by
  refine FnC_of (fn := Tryz.f107) Tryz.func107 rfl rfl rfl ?_
  refine stp ?_ ?_ ?_ ?_ ?_ ?_ ?_ ?_ ?_ ?_ ?_ ?_ ?_ ?_ ?_ ?_ <;> (first | exact Mk.mk | exact trivial | (repeat intro hq))
  refine W_loopT (fun i : Nat => St.tmpl 36 [(0, .one (.d (.sl (.sl (.i .i64))) xss)), (3, .one (.d (.i .i64) (sumA (xss.take i) : Nat))), (9, .one (.d (.sl (.sl (.i .i64))) xss)), (10, .one (.d (.i .i64) (xss.length : Nat))), (11, .one (.d (.i .i64) (i : Int)))] []) (fun i => i ≤ xss.length) (fun i => xss.length - i) 0 (Nat.zero_le _) ?_ ?_
  · exact Wk_tmpl [] ⟨rfl, rfl, rfl, rfl, rfl, trivial⟩ trivial rfl rfl
  · intro i hi
    have hs := sumA_le (xss := xss) (i := i)
    have hs1 := sumA_le (xss := xss) (i := i + 1)
    have ht := fun h : i < xss.length => sumA_take h (dflt (.sl (.i .i64)))
    have zD1 := fun {z0} zh => growI_ok z0 zh
    refine stp ?_ ?_ ?_ ?_ ?_ ?_ ?_ ?_ ?_ ?_ ?_ ?_ ?_ ?_ ?_ ?_ <;> (first | exact Mk.mk | exact trivial | (repeat intro hq))
    · have hlt : i < xss.length := by simpa using hq
      refine ⟨i + 1, by omega, by omega, Wk_tmpl [] ⟨rfl, ?_, rfl, rfl, rfl, trivial⟩ trivial rfl rfl⟩
      refine congrArg (fun r => SV.one (C.d (Ty.i IntKind.i64) r)) ?_
      show (sumA (xss.take i) : Int) + ((xss.getD i (dflt (.sl (.i .i64)))).length : Nat) = _
      rw [ht hlt, Int.natCast_add]
    · refine W_loopT (fun i : Nat => St.tmpl 36 [(6, .one (.rf 7000 .ar)), (25, .one (.d (.sl (.sl (.i .i64))) xss)), (26, .one (.d (.i .i64) (xss.length : Nat))), (27, .one (.d (.i .i64) (i : Int)))] [(7000, .rows 3 (.i .i64) false (xss.take i).flatten)]) (fun i => i ≤ xss.length) (fun i => xss.length - i) 0 (Nat.zero_le _) ?_ ?_
      · exact Wk_tmpl [(7000, 25000)] ⟨rfl, rfl, rfl, rfl, trivial⟩ ⟨rfl, trivial⟩ rfl rfl
      · intro j hj
        have hs := sumA_le (xss := xss) (i := j)
        have hs1 := sumA_le (xss := xss) (i := j + 1)
        have ht := fun h : j < xss.length => sumA_take h (dflt (.sl (.i .i64)))
        unfold sumA at hs hs1 ht hl
        refine stp ?_ ?_ ?_ ?_ ?_ ?_ ?_ ?_ ?_ ?_ ?_ ?_ ?_ ?_ ?_ ?_ <;> (first | exact Mk.mk | exact trivial | (repeat intro hq))
        · have hlt : j < xss.length := by simpa using hq
          have := ht hlt
          show (xss.take j).flatten.length + (xss.getD j (dflt (.sl (.i .i64)))).length ≤ maxLen
          unfold maxLen; omega
        · have hlt : j < xss.length := by simpa using hq
          refine ⟨j + 1, by omega, by omega, Wk_tmpl [(7000, 34000)] ⟨rfl, rfl, rfl, rfl, trivial⟩ ⟨?_, trivial⟩ rfl rfl⟩
          refine congrArg (fun r => some (Ob.rows 3 (.i .i64) false r)) ?_
          exact (flatA hlt _).symm
        · have e : j = xss.length := by simp at hq; omega
          rw [e, List.take_length]
end Go.LX

set_option linter.unusedVariables false
set_option linter.unusedSimpArgs false
namespace Go.LX
open Go.Proofs
attribute [local irreducible] W WO OpW RW EndQ
/-- The authors behind an edit. -/
def auS (s : Int) (e : Ed) (out : List Int) : List Int := out.take e.1.toNat ++ List.replicate e.2.2.length s ++ out.drop (e.1 + e.2.1).toNat
def auM : List Int → List Cm → List Int
  | out, [] => out
  | out, c :: r => auM (auS c.1 c.2 out) r
theorem dos_all {t : List UInt8} {e : Ed} {es : List Ed} {n : Nat} (h : (dos t (e :: es)).2 = n + 1) (hn : n = es.length) : eokM t e = true ∧ (dos (doE t e) es).2 = n := by
  unfold dos at h
  split at h
  · rename_i he
    exact ⟨he, by simp only at h; omega⟩
  · simp at h
theorem doE_len1 {t : List UInt8} {e : Ed} (h1 : 0 ≤ e.1 ∧ e.1 ≤ t.length) (h2 : 0 ≤ e.2.1 ∧ e.1 + e.2.1 ≤ t.length) : ((doE t e).length : Int) = t.length - e.2.1 + e.2.2.length := by
  simp only [doE, List.length_append, List.length_take, List.length_drop]; omega
theorem auS_len {s : Int} {e : Ed} {out : List Int} (h1 : 0 ≤ e.1 ∧ e.1 ≤ out.length) (h2 : 0 ≤ e.2.1 ∧ e.1 + e.2.1 ≤ out.length) : ((auS s e out).length : Int) = out.length - e.2.1 + e.2.2.length := by
  simp only [auS, List.length_append, List.length_take, List.length_drop, List.length_replicate]; omega
/-- What an edit of a run of edits is. -/
theorem eok_in {u : List UInt8} {e : Ed} (h : eokM u e = true) : (0 ≤ e.1 ∧ e.1 ≤ u.length) ∧ (0 ≤ e.2.1 ∧ e.1 + e.2.1 ≤ u.length) ∧ e.2.2.length ≤ 400 := by
  obtain ⟨_, h2, h3, h4, h5, _⟩ := eok_parts h
  have := cutB_in h2
  have := cutB_in h4
  exact ⟨by omega, by omega, tokM_len h5⟩
/-- A run of commits, and numbers beside its text. -/
structure AuJ (L : List Cm) (A : List Int) (q : Nat × List Int × List UInt8) : Prop where
  le : q.1 ≤ L.length
  eq : q.2.1.length = q.2.2.length
  u4 : q.2.2.length ≤ 400
  run : (dos q.2.2 (logE (L.drop q.1))).2 = L.length - q.1
  res : auM q.2.1 (L.drop q.1) = A
theorem AuJ.next {L : List Cm} {A out : List Int} {u : List UInt8} {i : Nat} (h : AuJ L A (i, out, u)) (hi : i < L.length) : (eokM u (L.getD i (dflt TCm)).2 = true) ∧ AuJ L A (i + 1, auS (L.getD i (dflt TCm)).1 (L.getD i (dflt TCm)).2 out, doE u (L.getD i (dflt TCm)).2) := by
  obtain ⟨h1, h2, h3, h4, h5⟩ := h
  simp only at h1 h2 h3 h4 h5
  have hd : L.drop i = L.getD i (dflt TCm) :: L.drop (i + 1) := by
    rw [List.drop_eq_getElem_cons hi, List.getD_eq_getElem?_getD, List.getElem?_eq_getElem hi]; rfl
  rw [hd] at h4 h5
  obtain ⟨k1, k2⟩ := dos_all (n := L.length - i - 1) (es := logE (L.drop (i + 1))) (e := (L.getD i (dflt TCm)).2) (t := u) (by
    rw [show L.length - i - 1 + 1 = L.length - i by omega]; exact h4) (by rw [logE_len, List.length_drop]; omega)
  obtain ⟨e1, e2, e3⟩ := eok_in k1
  refine ⟨k1, ⟨hi, ?_, doE_len2 (by omega) k1, by rw [k2]; simp only; omega, h5⟩⟩
  have := doE_len1 e1 e2
  have := auS_len (s := (L.getD i (dflt TCm)).1) (out := out) (e := (L.getD i (dflt TCm)).2) (by omega) (by omega)
  simp only
  omega
theorem AuJ.init {s : List UInt8} {log L : List Cm} {v : Nat} (hs : s.length ≤ 400) (hL : L = log.take v) (hv : v ≤ log.length) (hr : (dos s (logE log)).2 = log.length) : AuJ L (auM (List.replicate s.length 0) L) (0, List.replicate s.length 0, s) := by
  subst hL
  refine ⟨Nat.zero_le _, by simp, hs, ?_, rfl⟩
  have := (dos_split (k := v) (es := logE log) (t := s) (by omega)).1
  simp only [List.drop_zero, Nat.sub_zero, List.length_take]
  unfold logE at this ⊢
  rw [List.map_take, this]; omega
theorem AuJ.done {L : List Cm} {A out : List Int} {u : List UInt8} {i : Nat} (h : AuJ L A (i, out, u)) (hi : L.length ≤ i) : out = A := by
  have := h.res
  simp only at this
  rwa [List.drop_eq_nil_of_le hi] at this
def auD (d : Dc) (v : Nat) : List Int := auM (List.replicate d.1.length 0) (d.2.2.1.take v)
set_option maxHeartbeats 4000000 in
set_option maxRecDepth 20000 in
theorem iauthors_ok (d : Dc) (v : Int) (hd : docB d = true) (hw : bn 1048576 TDc d) (hv : 0 ≤ v ∧ v ≤ d.2.2.1.length) : FnC Tryz.prog 53 [aDc d, aI v] [aDc0, aX] (.one (oIs (auD d v.toNat))) := by
  obtain ⟨_, hs, hr, _⟩ := docB_no d hd
  obtain ⟨s, t, log, clk, ms, ls⟩ := d
  have ls4 := tokM_len hs
  have l3 := hw.2.2.1.1
  simp only at hs hr ls4 l3 hv
  unfold auD
  simp only
  have hJ := AuJ.init (L := log.take v.toNat) ls4 rfl (by omega) hr
  have hc : cut none (some v) log = log.take v.toNat := by simp [cut]
  have hcl : (log.take v.toNat).length = v.toNat := by rw [List.length_take]; omega
  generalize auM (List.replicate s.length 0) (log.take v.toNat) = A at *
  rw [← hc] at hJ hcl
  generalize hL : cut none (some v) log = L at *
  refine FnC_of (fn := Tryz.f53) Tryz.func53 rfl rfl rfl ?_
  refine stp ?_ ?_ ?_ ?_ ?_ ?_ ?_ ?_ ?_ ?_ ?_ ?_ ?_ ?_ ?_ ?_ <;> (first | exact Mk.mk | exact trivial | (repeat intro hq))
  refine W_loopT (fun q : Nat × List Int × List UInt8 => St.tmpl 49 [(5, .one (.rf 13000 .ar)), (16, .one (.d (.sl TCm) L)), (17, .one (.d (.i .i64) (L.length : Nat))), (18, .one (.d (.i .i64) (q.1 : Int)))] [(13000, .rows 3 (.i .i64) false q.2.1)]) (AuJ L A) (fun q => L.length - q.1) (0, List.replicate s.length 0, s) hJ ?_ ?_
  · refine Wk_tmpl [] ⟨rfl, ?_, ?_, rfl, trivial⟩ ⟨?_, trivial⟩ rfl rfl
    · exact congrArg (fun r => SV.one (C.d (.sl TCm) r)) hL
    · refine congrArg (fun r => SV.one (C.d (Ty.i IntKind.i64) r)) ?_
      exact congrArg (fun r : List Cm => (r.length : Int)) hL
    · rfl
  · rintro ⟨i, out, u⟩ hJ
    rcases Nat.lt_or_ge i L.length with hlt | hge
    · obtain ⟨k1, k2⟩ := hJ.next hlt
      obtain ⟨e1, e2, e3⟩ := eok_in k1
      obtain ⟨h1, h2, h3, _, _⟩ := hJ
      simp only at h1 h2 h3 ⊢
      refine W.weak (Wk_freeze (o := 13000) rfl) ?_
      have hc2 : L.getD i (dflt TCm) = L.getD (i : Int).toNat (dflt TCm) := rfl
      rw [hc2] at k2 e1 e2 e3
      have r1 := repeatI_ok (L.getD (i : Int).toNat (dflt TCm)).1 ((L.getD (i : Int).toNat (dflt TCm)).2.2.2.length : Nat) (by omega)
      have lt := auS_len (s := (L.getD (i : Int).toNat (dflt TCm)).1) (out := out) (e := (L.getD (i : Int).toNat (dflt TCm)).2) (by omega) (by omega)
      rw [Int.toNat_natCast] at r1
      skip
      have zE1 := fun (zh : True) => r1
      refine stpD ?_ ?_ ?_ ?_ ?_ ?_ ?_ ?_ ?_ ?_ ?_ ?_ ?_ ?_ ?_ ?_ <;> (first | exact Mk.mk | exact trivial | (repeat intro hq))
      refine W.weak (Wk_freeze (o := 30000) rfl) ?_
      have c1 := concatI_ok [cut none (some (L.getD (i : Int).toNat (dflt TCm)).2.1) out, List.replicate (L.getD (i : Int).toNat (dflt TCm)).2.2.2.length (L.getD (i : Int).toNat (dflt TCm)).1, cut (some ((L.getD (i : Int).toNat (dflt TCm)).2.1 + (L.getD (i : Int).toNat (dflt TCm)).2.2.1)) none out] (by simp) (by simp only [sumA, List.flatten_cons, List.flatten_nil, List.length_append, List.length_nil, cut, List.length_take, List.length_drop, List.length_replicate]; omega)
      have zE1 := fun (zh : True) => c1
      refine stp ?_ ?_ ?_ ?_ ?_ ?_ ?_ ?_ ?_ ?_ ?_ ?_ ?_ ?_ ?_ ?_ <;> (first | exact Mk.mk | exact trivial | (repeat intro hq))
      refine ⟨(i + 1, auS (L.getD (i : Int).toNat (dflt TCm)).1 (L.getD (i : Int).toNat (dflt TCm)).2 out, doE u (L.getD (i : Int).toNat (dflt TCm)).2), by simp only; omega, k2, Wk_tmpl [(13000, 47000)] ⟨rfl, rfl, rfl, rfl, trivial⟩ ⟨?_, trivial⟩ rfl rfl⟩
      refine congrArg (fun r => some (Ob.rows 3 (.i .i64) false r)) ?_
      simp [auS, cut]
    · have := hJ.done hge
      obtain rfl : i = L.length := by have := hJ.le; simp only at this; omega
      refine stp ?_ ?_ ?_ ?_ ?_ ?_ ?_ ?_ ?_ ?_ ?_ ?_ ?_ ?_ ?_ ?_ <;> (first | exact Mk.mk | exact trivial | (repeat intro hq))
      exact this
set_option maxHeartbeats 4000000 in
set_option maxRecDepth 20000 in
theorem isver_ok (d : Dc) (v : Int) (hl : d.2.2.1.length ≤ 16777216) : FnC Tryz.prog 63 [aDc d, aI v] [aDc0, aX] (.one (sB (decide (0 ≤ v) && decide (v ≤ d.2.2.1.length)))) := by
  refine FnC_of (fn := Tryz.f63) Tryz.func63 rfl rfl rfl ?_
  have zD1 := fun {z0} {z1} {z2} (zh : True) => in_ok z0 z1 z2
  refine stp ?_ ?_ ?_ ?_ ?_ ?_ ?_ ?_ ?_ ?_ ?_ ?_ ?_ ?_ ?_ ?_ <;> (first | exact Mk.mk | exact trivial | (repeat intro hq))
noncomputable def auR (d : Dc) (v : Int) : List Int := if (docB d && (decide (0 ≤ v) && decide (v ≤ d.2.2.1.length))) = true then auD d v.toNat else []
set_option maxHeartbeats 4000000 in
set_option maxRecDepth 20000 in
theorem iauthorsat_ok (d : Dc) (v : Int) (hw : bn 1048576 TDc d) : FnC Tryz.prog 29 [aDc d, aI v] [aDc0, aX] (.one (oIs (auR d v))) := by
  have k1 := isdoc_ok d hw
  have k2 := isver_ok d v (Nat.le_trans hw.2.2.1.1 (by decide))
  unfold auR
  cases h1 : docB d with
  | false =>
    rw [h1] at k1
    refine FnC_of (fn := Tryz.f29) Tryz.func29 rfl rfl rfl ?_
    have zD1 := fun (zh : True) => k1
    refine stp ?_ ?_ ?_ ?_ ?_ ?_ ?_ ?_ ?_ ?_ ?_ ?_ ?_ ?_ ?_ ?_ <;> (first | exact Mk.mk | exact trivial | (repeat intro hq))
  | true =>
    rw [h1] at k1
    cases h2 : (decide (0 ≤ v) && decide (v ≤ d.2.2.1.length)) with
    | false =>
      rw [h2] at k2
      refine FnC_of (fn := Tryz.f29) Tryz.func29 rfl rfl rfl ?_
      have zD1 := fun (zh : True) => k1
      have zD2 := fun (zh : True) => k2
      refine stp ?_ ?_ ?_ ?_ ?_ ?_ ?_ ?_ ?_ ?_ ?_ ?_ ?_ ?_ ?_ ?_ <;> (first | exact Mk.mk | exact trivial | (repeat intro hq))
    | true =>
      rw [h2] at k2
      simp only [Bool.and_eq_true, decide_eq_true_eq] at h2
      have k3 := iauthors_ok d v h1 hw h2
      refine FnC_of (fn := Tryz.f29) Tryz.func29 rfl rfl rfl ?_
      have zD1 := fun (zh : True) => k1
      have zD2 := fun (zh : True) => k2
      have zD3 := fun (zh : True) => k3
      refine stp ?_ ?_ ?_ ?_ ?_ ?_ ?_ ?_ ?_ ?_ ?_ ?_ ?_ ?_ ?_ ?_ <;> (first | exact Mk.mk | exact trivial | (repeat intro hq))
set_option maxHeartbeats 4000000 in
set_option maxRecDepth 20000 in
theorem iauthorsall_ok (d : Dc) (hw : bn 1048576 TDc d) : FnC Tryz.prog 34 [aDc d] [aDc0] (.one (oIs (auR d d.2.2.1.length))) := by
  have k1 := iauthorsat_ok d d.2.2.1.length hw
  refine FnC_of (fn := Tryz.f34) Tryz.func34 rfl rfl rfl ?_
  have zD1 := fun (zh : True) => k1
  refine stp ?_ ?_ ?_ ?_ ?_ ?_ ?_ ?_ ?_ ?_ ?_ ?_ ?_ ?_ ?_ ?_ <;> (first | exact Mk.mk | exact trivial | (repeat intro hq))
/-- How often a number occurs. -/
def cntI (s : Int) (xs : List Int) : Nat := xs.countP (fun x => decide (x = s))
theorem cntI_le {s : Int} {xs : List Int} : cntI s xs ≤ xs.length := List.countP_le_length
theorem cntI_take {s : Int} {xs : List Int} {i : Nat} (h : i < xs.length) : cntI s (xs.take (i + 1)) = cntI s (xs.take i) + if xs.getD i 0 = s then 1 else 0 := by
  rw [take1 h 0, cntI, cntI, List.countP_append]
  simp
theorem auR_len (d : Dc) (v : Int) : (auR d v).length ≤ 400 := by
  unfold auR
  split
  · rename_i h
    simp only [Bool.and_eq_true, decide_eq_true_eq] at h
    obtain ⟨hd, hv⟩ := h
    obtain ⟨_, hs, hr, _⟩ := docB_no d hd
    have hJ := AuJ.init (L := d.2.2.1.take v.toNat) (tokM_len hs) rfl (by omega) hr
    have key : ∀ n i out u, n = (d.2.2.1.take v.toNat).length - i → AuJ (d.2.2.1.take v.toNat) (auM (List.replicate d.1.length 0) (d.2.2.1.take v.toNat)) (i, out, u) → (auM (List.replicate d.1.length 0) (d.2.2.1.take v.toNat)).length ≤ 400 := by
      intro n
      induction n with
      | zero =>
        intro i out u hn h
        rw [← h.done (by omega)]
        have h1 := h.eq
        have h2 := h.u4
        simp only at h1 h2
        omega
      | succ n ih =>
        intro i out u hn h
        exact ih _ _ _ (by omega) (h.next (by omega)).2
    exact key _ _ _ _ rfl hJ
  · simp
set_option maxHeartbeats 4000000 in
set_option maxRecDepth 20000 in
theorem ileft_ok (d : Dc) (s : Int) (hw : bn 1048576 TDc d) : FnC Tryz.prog 16 [aDc d, aI s] [aDc0, aX] (.one (sI (if docB d = true then (cntI s (auR d d.2.2.1.length) : Int) else -1))) := by
  have k1 := isdoc_ok d hw
  cases h1 : docB d with
  | false =>
    rw [h1] at k1
    refine FnC_of (fn := Tryz.f16) Tryz.func16 rfl rfl rfl ?_
    have zD1 := fun (zh : True) => k1
    refine stp ?_ ?_ ?_ ?_ ?_ ?_ ?_ ?_ ?_ ?_ ?_ ?_ ?_ ?_ ?_ ?_ <;> (first | exact Mk.mk | exact trivial | (repeat intro hq))
  | true =>
    rw [h1] at k1
    have k3 := iauthors_ok d d.2.2.1.length h1 hw ⟨by omega, by omega⟩
    have e : auD d (d.2.2.1.length : Int).toNat = auR d d.2.2.1.length := by
      rw [auR, if_pos]
      rw [h1]; simp
    rw [e] at k3
    have hl := auR_len d d.2.2.1.length
    rw [if_pos rfl]
    generalize auR d d.2.2.1.length = xs at *
    refine FnC_of (fn := Tryz.f16) Tryz.func16 rfl rfl rfl ?_
    have zD1 := fun (zh : True) => k1
    have zD2 := fun (zh : True) => k3
    refine stp ?_ ?_ ?_ ?_ ?_ ?_ ?_ ?_ ?_ ?_ ?_ ?_ ?_ ?_ ?_ ?_ <;> (first | exact Mk.mk | exact trivial | (repeat intro hq))
    refine W_loopT (fun i : Nat => St.tmpl 28 [(1, .one (.d (.i .i64) s)), (5, .one (.d (.i .i64) (cntI s (xs.take i) : Nat))), (15, .one (.rf 16000 .ar)), (16, .one (.d (.i .i64) (xs.length : Nat))), (17, .one (.d (.i .i64) (i : Int)))] [(16000, .rows 3 (.i .i64) false xs)]) (fun i => i ≤ xs.length) (fun i => xs.length - i) 0 (Nat.zero_le _) ?_ ?_
    · exact Wk_tmpl [] ⟨rfl, rfl, rfl, rfl, rfl, trivial⟩ ⟨rfl, trivial⟩ rfl rfl
    · intro i hi
      have hle := cntI_le (s := s) (xs := xs.take i)
      rw [List.length_take] at hle
      rcases Nat.lt_or_ge i xs.length with hlt | hge
      · have ht := cntI_take (s := s) hlt
        have hg : xs.getD i 0 = xs.getD (i : Int).toNat (dflt (.i .i64)) := rfl
        rw [hg] at ht
        skip
        refine stp ?_ ?_ ?_ ?_ ?_ ?_ ?_ ?_ ?_ ?_ ?_ ?_ ?_ ?_ ?_ ?_ <;> (first | exact Mk.mk | exact trivial | (repeat intro hq))
        all_goals
          refine ⟨i + 1, by omega, by omega, Wk_tmpl [] ⟨rfl, ?_, rfl, rfl, rfl, trivial⟩ ⟨rfl, trivial⟩ rfl rfl⟩
          refine congrArg (fun r => SV.one (C.d (Ty.i IntKind.i64) r)) ?_
          simp only [decide_eq_true_eq, decide_eq_false_iff_not] at hq
          first | (rw [ht, if_pos hq]; rfl) | (rw [ht, if_neg hq]; rfl)
      · obtain rfl : i = xs.length := by omega
        refine stp ?_ ?_ ?_ ?_ ?_ ?_ ?_ ?_ ?_ ?_ ?_ ?_ ?_ ?_ ?_ ?_ <;> (first | exact Mk.mk | exact trivial | (repeat intro hq))
        rw [List.take_length]
end Go.LX

