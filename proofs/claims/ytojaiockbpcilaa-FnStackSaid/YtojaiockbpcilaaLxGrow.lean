/- cap of nil; append of zeros to nil; an owned slice cut short in its place. -/
import Derived.Test.YtojaiockbpcilaaLxClo
import Derived.Lib.AppendZeros
set_option linter.unusedVariables false
set_option linter.unusedSimpArgs false
namespace Go.LX

variable {P : Program} {σ : St}

theorem op_capN [Glob] {o : Oper} {t' : Nat} {x : Operand} {ty : TypeId} {N : St → Prop} (ho : o.op = .call { callee := .builtin .cap, args := #[x], argTypes := #[ty] }) (hd : o.dst = some t') (ht : Nat.blt t' σ.n = true) (hty : isSlB P ty = true) (hx : σ.ev x = .one .nl) (hN : N (σ.over [(t', .one (.d (.i .i64) 0))] [])) : OpW P o N σ := by
  refine OpW_put (s := .one (.d (.i .i64) 0)) hd ht (fun K w I g tm hi => ?_) hN
  have hu : Act.eval ⟨tm, []⟩ x = .slice none 0 0 := (hi.ev_one hx).1
  unfold isSlB at hty
  obtain ⟨e, he⟩ := Option.isSome_iff_exists.1 hty
  have he := elemB_ok he
  refine ⟨.int .i64 0, ?_, shape_one rfl rfl⟩
  simp [execOp, ho, resolve, invoke, builtin, hu, Builtin.cap_, run_underlying he, goInt]
/-- append(nil, make([]E, n)..) -/
theorem op_apMk [Glob] {o : Oper} {t' id bytes : Nat} {ty tn e : TypeId} {x y : Operand} {k kn : IntKind} {n : Int} (t : Ty) {z0 : t.T} {zs : List Value} {N : St → Prop} (ho : o.op = .call { callee := .builtin .append, args := #[x, y], argTypes := #[ty, tn] }) (hd : o.dst = some t') (ht : Nat.blt t' σ.n = true) (_he : elemB P ty = some e) (_hty : tyOf P 9 e = some t) (_hby : bytesB P e = some bytes) (htn : toNum P tn = some kn) (hT : tyB P ty e t.w bytes = true) (hx : σ.ev x = .one .nl) (hy : σ.ev y = .one (.d (.i k) n))
    (hz : zeroB P e = some zs) (hzt : mkT σ.objs t (zs.map C.ofZ) = some z0) (hid : newO σ.objs t' = some id) (h0 : 0 < n) (hbd : n * bytes ≤ 140737488355328) (hml : n ≤ 9223372036854775807)
    (hN : N (σ.over [(t', .one (.rf id .ar))] [(id, some (.rows e t false (List.replicate n.toNat z0)))])) : OpW P o N σ := by
  refine OpW_obj (σ' := σ.setO id (.rows e t false (List.replicate n.toNat z0))) hd ht rfl (fun K w I g tm hi => ?_) hN
  have hT := tyB_ok hT
  obtain ⟨m, rfl⟩ := Int.eq_ofNat_of_zero_le (Int.le_of_lt h0)
  simp only [Int.toNat_natCast]
  obtain ⟨zs', hz', hzl⟩ := hT.z
  rw [hz] at hz'
  cases hz'
  have htn' : P.underlying tn = some (.int kn) := by
    unfold toNum at htn
    split at htn
    · rename_i h; cases htn; exact h
    · cases htn
  unfold zeroB at hz
  cases hinf : P.info? e with
  | none => simp [hinf] at hz
  | some inf =>
    cases hzz : inf.zero with
    | none => simp [hinf, hzz] at hz
    | some z =>
      simp [hinf, hzz] at hz
      have hsz' : inf.size = t.w := by simpa [sizeB, hinf] using hT.sz
      have hb' : inf.bytes = bytes := by simpa [hinf] using hT.by_
      have hzc : z.cells.size = t.w := by rw [← hzl, ← hz]; simp
      have e1 : Act.eval ⟨tm, []⟩ x = .slice none 0 0 := (hi.ev_one hx).1
      have e2 := hi.ev_i hy
      have hbd' : m * bytes ≤ 140737488355328 := Int.ofNat_le.1 (by rw [Int.natCast_mul]; exact hbd)
      have hml' : m ≤ maxLen := by show m ≤ 2 ^ 63 - 1; omega
      have hrun := Go.Lib.run_append_nil_zeros (P := P) w ty tn o.type e inf z k kn hT.ty htn' hinf hzz m (by omega) (by rw [hsz']; exact hT.pos) hml (by rw [hb']; omega)
      have hge := grownCap_ge w m 0 e
      have hcm := grownCap_le_maxLen w m 0 e hml'
      have hB2 : Go.RowKit.Below w.heap.size w (w.drew.alloc (.cells (Builtin.zeroCells z.cells m ++ Builtin.zeroCells z.cells (grownCap w m 0 e - m)) e)) := ⟨rfl, rfl, rfl, by simp, fun k hk => heap_alloc_old w.drew _ k hk⟩
      have hi' := hi.grow hB2
      have hzr : ∀ m, (Builtin.zeroCells z.cells m).toList = (List.replicate m zs).flatten := by
        intro m
        have := made_eq (z := z) (zs := zs) (n := m) (size := t.w) hz hzl
        rw [← this]
        simp [Builtin.zeroCells, madeCells, hzc]
      have hrow : RT w I t z0 zs := mkT_ok hi hzt (by simp) fun j c hj => by
        simp only [List.getElem?_map, Option.map_eq_some_iff] at hj
        obtain ⟨v, hv, rfl⟩ := hj
        exact ⟨v, hv, CR.ofZ⟩
      have hrows : ∀ (w' : World), (∀ b, I b → ∀ o, w'.cell? ⟨b, o, none⟩ = w.cell? ⟨b, o, none⟩) → ∀ k, Rows (RR w' I false t) (List.replicate k z0) (List.replicate k zs).flatten [] := by
        intro w' hw k
        induction k with
        | zero => exact ⟨rfl, rfl⟩
        | succ k ih => exact ⟨zs, _, [], [], by simp [List.replicate_succ], rfl, ⟨rfl, hrow.kept (fun _ h => h) hw⟩, ih⟩
      have hown : (w.drew.alloc (.cells (Builtin.zeroCells z.cells m ++ Builtin.zeroCells z.cells (grownCap w m 0 e - m)) e)).ownsRow 0 e t.w (.slice (some ⟨w.heap.size, 0, none⟩) m (grownCap w m 0 e)) (List.replicate m z0).length (List.replicate m zs).flatten := by
        rw [List.length_replicate]
        have hfl : ∀ r ∈ List.replicate m zs, r.length = t.w := fun r hr => by rw [List.eq_of_mem_replicate hr]; exact hzl
        refine ⟨by rw [flat_len hfl]; simp, .inr ⟨w.heap.size, _, _, rfl, Nat.zero_le _, heap_alloc_new w.drew _, hge, hcm, ?_, ?_⟩⟩
        · simp only [Array.size_append, size_zeroCells, hzc, ← Nat.add_mul]
          rw [Nat.add_sub_cancel' hge]
        · rw [Array.toList_append, hzr]
          have : (List.replicate m zs).flatten.length = m * t.w := by rw [flat_len hfl]; simp
          rw [← this]
          exact List.take_left
      have hnew := hi'.newRows (o := id) (e := e) (dp := false) (v := .slice (some ⟨w.heap.size, 0, none⟩) m (grownCap w m 0 e)) (L := [w.heap.size]) (newO_ok hid).1 (fun v hv => absurd hv ((hi'.noE' (newO_ok hid).2).2 v)) (hi'.noE' (newO_ok hid).2).1 (by simp) (fun b hb => by simp at hb; subst hb; exact free_new hi (Nat.le_refl _))
        ⟨_, [], .of hown, hrows _ (fun b hb o => cell_block (heap_alloc_old w.drew _ b (hi.immX b hb).1) o) m, by simp [Value.ownBlock]⟩
      refine ⟨.slice (some ⟨w.heap.size, 0, none⟩) m (grownCap w m 0 e), _, I, _, ?_, hnew, shape_one rfl ?_⟩
      · simp [execOp, ho, resolve, invoke, builtin, e1, e2, hrun]
      · show seeO _ _ _ _ _ ((σ.setO _ _).objs _) _ _
        rw [St.setO_same, Gh.setO_eq.2.1]
        rfl
theorem op_cut [Glob] {o : Oper} {t' id k : Nat} {ty e e' : TypeId} {x : Operand} {hb : Option Operand} {t : Ty} {dp : Bool} {xs : List t.T} {h : Option Int} {N : St → Prop} (ho : o.op = .slice ty x none hb none) (hd : o.dst = some t') (ht : Nat.blt t' σ.n = true) (he : elemB P ty = some e') (hs : sizeB P e' = some t.w) (hx : σ.ev x = .one (.rf k .ar)) (hq : σ.objs k = some (.rows e t dp xs)) (hbd : bnd σ.ev hb = some h) (hid : newO (σ.setO k .dead).objs t' = some id)
    (h0 : 0 ≤ h.getD xs.length) (h1 : h.getD xs.length ≤ xs.length) (hN : N (σ.over [(t', .one (.rf id .ar))] [(id, some (.rows e t dp (xs.take (h.getD xs.length).toNat))), (k, some .dead)])) : OpW P o N σ := by
  refine OpW_obj (σ' := (σ.setO k .dead).setO id (.rows e t dp (xs.take (h.getD xs.length).toNat))) hd ht rfl (fun K w I g tm hi => ?_) hN
  generalize hn' : (h.getD xs.length).toNat = n
  have hn : n ≤ xs.length := by omega
  have hu : Act.eval ⟨tm, []⟩ x = g.base k := by
    have hc' : seeO w I (g.addr k) (g.base k) (g.L k) (σ.objs k) .ar (Act.eval ⟨tm, []⟩ x) := (hi.ev_one hx).1
    rw [hq] at hc'; exact hc'
  obtain ⟨b1, b2⟩ := bnd_ok hi hbd
  obtain ⟨vs, L', hor, hrows, hL⟩ := hi.rows hq
  obtain ⟨hk1, hk2⟩ := hi.kill hq
  have hx2 : xs = xs.take n ++ xs.drop n := (List.take_append_drop _ _).symm
  have hvl := hor.1
  rw [hx2] at hrows
  obtain ⟨u1, u2, L1, L2, hvs, hL12, r1, r2⟩ := hrows.split
  have hu1 : u1.length = n * t.w := by rw [r1.len (fun _ _ _ h => h.len), List.length_take, Nat.min_eq_left hn]
  have res : ∃ v', (execOp (Act.eval ⟨tm, []⟩) o).run P w = .ok (.value v') w ∧ ownsR w e t.w v' n u1 ∧ v'.ownBlock = (g.base k).ownBlock ∧ v'.oneCell' = true := by
    rcases hor.2 with ⟨hb0, hn0⟩ | ⟨b, f1, cap, cur, hb0, hg, hnc, hcm, hcs, htake⟩
    · have hrun := run_sliceB (P := P) (elemB_ok he) hs (lo := none) (l := none) (hi' := hb.map (Act.eval ⟨tm, []⟩)) (h := h) (fun v hv => by cases hv) (fun _ => rfl) b1 b2 none 0 0 (Nat.le_refl _) (by simp) (by simp; rw [hn0] at h0; simpa using h0) (by rw [hn0] at h1; simpa using h1) w
      have hz0 : n = 0 := by omega
      have e0 : (h.getD ((0 : Nat) : Int)).toNat = 0 := by rw [hn0] at h1; omega
      refine ⟨.slice none 0 0, ?_, ⟨by rw [hu1, hz0], .inl ⟨rfl, hz0⟩⟩, by rw [hb0], rfl⟩
      simp only [execOp, ho, hu, hb0, Option.map_none, Sem.run_bind] at hrun ⊢
      rw [hrun, e0]
      simp [sliced]
    · have hrun := run_sliceB (P := P) (elemB_ok he) hs (lo := none) (l := none) (hi' := hb.map (Act.eval ⟨tm, []⟩)) (h := h) (fun v hv => by cases hv) (fun _ => rfl) b1 b2 (some ⟨b, f1, none⟩) xs.length cap hnc (by simp) (by simpa using h0) h1 w
      refine ⟨.slice (some ⟨b, f1, none⟩) n cap, ?_, ⟨hu1, .inr ⟨b, f1, cap, cur, rfl, hg, Nat.le_trans hn hnc, hcm, hcs, ?_⟩⟩, by rw [hb0]; rfl, rfl⟩
      · simp only [execOp, ho, hu, hb0, Option.map_none, Sem.run_bind] at hrun ⊢
        rw [hrun, hn']
        simp [sliced, addr_add]
      · have : vs.take (n * t.w) = u1 := by rw [hvs, ← hu1, List.take_left]
        rw [← this, ← htake, List.take_take]
        rw [Nat.min_eq_left (Nat.mul_le_mul_right t.w hn)]
  obtain ⟨v', hrun, hrow, hblk, hone⟩ := res
  have hnod := hi.nod k
  rw [hL, hL12] at hnod
  have hsub : ∀ b ∈ v'.ownBlock.toList ++ L1, b ∈ g.L k := fun b hb => by
    rw [hL, hL12]
    simp only [List.mem_append] at hb ⊢
    rw [hblk] at hb
    exact hb.imp (fun h => h) .inl
  have hnd : (v'.ownBlock.toList ++ L1).Nodup := by
    rw [hblk]
    simp only [List.nodup_append, List.mem_append] at hnod ⊢
    obtain ⟨n1, ⟨n2, _, _⟩, n4⟩ := hnod
    exact ⟨n1, n2, fun a ha c hc => n4 a ha c (.inl hc)⟩
  have hnew := hk1.newRows (o := id) (e := e) (t := t) (dp := dp) (xs := xs.take n) (v := v') (L := v'.ownBlock.toList ++ L1) (newO_ok hid).1 (fun v hv => absurd hv ((hk1.noE' (newO_ok hid).2).2 v)) (hk1.noE' (newO_ok hid).2).1 hnd (fun b hb => hk2 b (hsub b hb)) ⟨u1, L1, by rw [List.length_take, Nat.min_eq_left hn]; exact hrow, r1, rfl⟩
  refine ⟨v', w, I, _, hrun, hnew, shape_one hone ?_⟩
  show seeO _ _ _ _ _ (((σ.setO k .dead).setO _ _).objs _) _ _
  rw [St.setO_same, Gh.setO_eq.2.1]
  rfl
end Go.LX
