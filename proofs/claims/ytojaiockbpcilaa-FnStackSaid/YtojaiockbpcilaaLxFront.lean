/- A slice cut at its front: the rest is owned on. -/
import Derived.Test.YtojaiockbpcilaaLxLitF
set_option linter.unusedVariables false
set_option linter.unusedSimpArgs false
namespace Go.LX
variable {P : Program} {σ : St}
theorem op_cutF [Glob] {o : Oper} {t' id k : Nat} {ty e e' : TypeId} {x : Operand} {lb : Operand} {t : Ty} {dp : Bool} {xs : List t.T} {l : Int} {N : St → Prop} (ho : o.op = .slice ty x (some lb) none none) (hd : o.dst = some t') (ht : Nat.blt t' σ.n = true) (he : elemB P ty = some e') (hs : sizeB P e' = some t.w) (hx : σ.ev x = .one (.rf k .ar)) (hq : σ.objs k = some (.rows e t dp xs)) (hbd : bnd σ.ev (some lb) = some (some l)) (hid : newO (σ.setO k .dead).objs t' = some id)
    (h0 : 0 ≤ l) (h1 : l ≤ xs.length) (hN : N (σ.over [(t', .one (.rf id .ar))] [(id, some (.rows e t dp (xs.drop l.toNat))), (k, some .dead)])) : OpW P o N σ := by
  refine OpW_obj (σ' := (σ.setO k .dead).setO id (.rows e t dp (xs.drop l.toNat))) hd ht rfl (fun K w I g tm hi => ?_) hN
  generalize hn' : l.toNat = n
  have hn : n ≤ xs.length := by omega
  have hu : Act.eval ⟨tm, []⟩ x = g.base k := by
    have hc' : seeO w I (g.addr k) (g.base k) (g.L k) (σ.objs k) .ar (Act.eval ⟨tm, []⟩ x) := (hi.ev_one hx).1
    rw [hq] at hc'; exact hc'
  obtain ⟨b1, b2⟩ := bnd_ok hi hbd
  obtain ⟨vs, L', hor, hrows, hL⟩ := hi.rows hq
  obtain ⟨hk1, hk2⟩ := hi.kill hq
  have hx2 : xs = xs.take n ++ xs.drop n := (List.take_append_drop _ _).symm
  have hvl := hor.1
  rw [hx2] at hrows
  obtain ⟨u1, u2, L1, L2, hvs, hL12, r1, r2⟩ := hrows.split
  have hu1 : u1.length = n * t.w := by rw [r1.len (fun _ _ _ h => h.len), List.length_take, Nat.min_eq_left hn]
  have hu2 : u2.length = (xs.length - n) * t.w := by rw [r2.len (fun _ _ _ h => h.len), List.length_drop]
  have res : ∃ v', (execOp (Act.eval ⟨tm, []⟩) o).run P w = .ok (.value v') w ∧ ownsR w e t.w v' (xs.length - n) u2 ∧ v'.ownBlock = (g.base k).ownBlock ∧ v'.oneCell' = true := by
    rcases hor.2 with ⟨hb0, hn0⟩ | ⟨b, f1, cap, cur, hb0, hg, hnc, hcm, hcs, htake⟩
    · have hrun := run_sliceB (P := P) (elemB_ok he) hs (lo := some (Act.eval ⟨tm, []⟩ lb)) (l := some l) (hi' := none) (h := none) b1 (fun hv => by cases hv) (fun v hv => by cases hv) (fun _ => rfl) none 0 0 (Nat.le_refl _) (by simpa using h0) (by simp; omega) (by simp) w
      have hz0 : n = 0 := by omega
      refine ⟨.slice none 0 0, ?_, ⟨by rw [hu2], .inl ⟨rfl, by omega⟩⟩, by rw [hb0], rfl⟩
      simp only [execOp, ho, hu, hb0, Option.map_none, Option.map_some, Sem.run_bind] at hrun ⊢
      rw [hrun]
      simp [sliced, hn', hz0]
    · have hrun := run_sliceB (P := P) (elemB_ok he) hs (lo := some (Act.eval ⟨tm, []⟩ lb)) (l := some l) (hi' := none) (h := none) b1 (fun hv => by cases hv) (fun v hv => by cases hv) (fun _ => rfl) (some ⟨b, f1, none⟩) xs.length cap hnc (by simpa using h0) (by simp; omega) (by simp) w
      have hdrop : ((cur.toList.drop (f1 + n * t.w)).take ((xs.length - n) * t.w)) = u2 := by
        have : vs.drop (n * t.w) = u2 := by rw [hvs, ← hu1, List.drop_left]
        rw [← this, ← htake, List.drop_take, List.drop_drop, ← Nat.sub_mul]
      by_cases hc : cap = n
      · have hxn : xs.length - n = 0 := by omega
        refine ⟨.slice (some ⟨b, f1, none⟩) (xs.length - n) (cap - n), ?_, ⟨hu2, .inr ⟨b, f1, cap - n, cur, rfl, hg, by omega, by omega, ?_, ?_⟩⟩, by rw [hb0]; rfl, rfl⟩
        · simp only [execOp, ho, hu, hb0, Option.map_none, Option.map_some, Sem.run_bind] at hrun ⊢
          rw [hrun]
          simp [sliced, hn', hc]
        · rw [hc, Nat.sub_self, Nat.zero_mul]; omega
        · rw [hxn, Nat.zero_mul] at hu2 ⊢
          rw [List.take_zero, List.eq_nil_of_length_eq_zero hu2]
      · refine ⟨.slice (some ⟨b, f1 + n * t.w, none⟩) (xs.length - n) (cap - n), ?_, ⟨hu2, .inr ⟨b, f1 + n * t.w, cap - n, cur, rfl, hg, by omega, by omega, ?_, hdrop⟩⟩, by rw [hb0]; rfl, rfl⟩
        · simp only [execOp, ho, hu, hb0, Option.map_none, Option.map_some, Sem.run_bind] at hrun ⊢
          rw [hrun]
          simp [sliced, hn', hc, addr_add]
        · have e : f1 + n * t.w + (cap - n) * t.w = f1 + cap * t.w := by
            rw [Nat.add_assoc, ← Nat.add_mul, Nat.add_sub_cancel' (by omega : n ≤ cap)]
          rw [e]; exact hcs
  obtain ⟨v', hrun, hrow, hblk, hone⟩ := res
  have hnod := hi.nod k
  rw [hL, hL12] at hnod
  have hsub : ∀ b ∈ v'.ownBlock.toList ++ L2, b ∈ g.L k := fun b hb => by
    rw [hL, hL12]
    simp only [List.mem_append] at hb ⊢
    rw [hblk] at hb
    exact hb.imp (fun h => h) .inr
  have hnd : (v'.ownBlock.toList ++ L2).Nodup := by
    rw [hblk]
    simp only [List.nodup_append, List.mem_append] at hnod ⊢
    obtain ⟨n1, ⟨_, n2, _⟩, n4⟩ := hnod
    exact ⟨n1, n2, fun a ha c hc => n4 a ha c (.inr hc)⟩
  have hnew := hk1.newRows (o := id) (e := e) (t := t) (dp := dp) (xs := xs.drop n) (v := v') (L := v'.ownBlock.toList ++ L2) (newO_ok hid).1 (fun v hv => absurd hv ((hk1.noE' (newO_ok hid).2).2 v)) (hk1.noE' (newO_ok hid).2).1 hnd (fun b hb => hk2 b (hsub b hb)) ⟨u2, L2, by rw [List.length_drop]; exact hrow, r2, rfl⟩
  refine ⟨v', w, I, _, hrun, hnew, shape_one hone ?_⟩
  show seeO _ _ _ _ _ (((σ.setO k .dead).setO _ _).objs _) _ _
  rw [St.setO_same, Gh.setO_eq.2.1]
  rfl
end Go.LX
