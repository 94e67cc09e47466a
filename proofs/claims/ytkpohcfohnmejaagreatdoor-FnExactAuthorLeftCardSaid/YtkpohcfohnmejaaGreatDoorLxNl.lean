/- A part of the proof of the statement in the row text. -/
import Derived.Test.YtkpohcfohnmejaaGreatDoorLxClo
import Derived.Lib.AppendZeros
/- cap of nil; append of zeros to nil; an owned slice cut short in its place. -/
set_option linter.unusedVariables false
set_option linter.unusedSimpArgs false
namespace Go.LX

variable {P : Program} {σ : St}

theorem op_capN [Glob] {o : Oper} {t' : Nat} {x : Operand} {ty : TypeId} {N : St → Prop} (ho : o.op = .call { callee := .builtin .cap, args := #[x], argTypes := #[ty] }) (hd : o.dst = some t') (ht : Nat.blt t' σ.n = true) (hty : isSlB P ty = true) (hx : σ.ev x = .one .nl) (hN : N (σ.over [(t', .one (.d (.i .i64) 0))] [])) : OpW P o N σ := by
  refine OpW_put (s := .one (.d (.i .i64) 0)) hd ht (fun K w I g tm hi => ?_) hN
  have hu : Act.eval ⟨tm, []⟩ x = .slice none 0 0 := (hi.ev_one hx).1
  unfold isSlB at hty
  obtain ⟨e, he⟩ := Option.isSome_iff_exists.1 hty
  have he := elemB_ok he
  refine ⟨.int .i64 0, ?_, shape_one rfl rfl⟩
  simp [execOp, ho, resolve, invoke, builtin, hu, Builtin.cap_, run_underlying he, goInt]
/-- append(nil, make([]E, n)..) -/
theorem op_apMk [Glob] {o : Oper} {t' id bytes : Nat} {ty tn e : TypeId} {x y : Operand} {k kn : IntKind} {n : Int} (t : Ty) {z0 : t.T} {zs : List Value} {N : St → Prop} (ho : o.op = .call { callee := .builtin .append, args := #[x, y], argTypes := #[ty, tn] }) (hd : o.dst = some t') (ht : Nat.blt t' σ.n = true) (_he : elemB P ty = some e) (_hty : tyOf P 9 e = some t) (_hby : bytesB P e = some bytes) (htn : toNum P tn = some kn) (hT : tyB P ty e t.w bytes = true) (hx : σ.ev x = .one .nl) (hy : σ.ev y = .one (.d (.i k) n))
    (hz : zeroB P e = some zs) (hzt : mkT σ.objs t (zs.map C.ofZ) = some z0) (hid : newO σ.objs t' = some id) (h0 : 0 < n) (hbd : n * bytes ≤ 140737488355328) (hml : n ≤ 9223372036854775807)
    (hN : N (σ.over [(t', .one (.rf id .ar))] [(id, some (.rows e t false (List.replicate n.toNat z0)))])) : OpW P o N σ := by
  refine OpW_obj (σ' := σ.setO id (.rows e t false (List.replicate n.toNat z0))) hd ht rfl (fun K w I g tm hi => ?_) hN
  have hT := tyB_ok hT
  obtain ⟨m, rfl⟩ := Int.eq_ofNat_of_zero_le (Int.le_of_lt h0)
  simp only [Int.toNat_natCast]
  obtain ⟨zs', hz', hzl⟩ := hT.z
  rw [hz] at hz'
  cases hz'
  have htn' : P.underlying tn = some (.int kn) := by
    unfold toNum at htn
    split at htn
    · rename_i h; cases htn; exact h
    · cases htn
  unfold zeroB at hz
  cases hinf : P.info? e with
  | none => simp [hinf] at hz
  | some inf =>
    cases hzz : inf.zero with
    | none => simp [hinf, hzz] at hz
    | some z =>
      simp [hinf, hzz] at hz
      have hsz' : inf.size = t.w := by simpa [sizeB, hinf] using hT.sz
      have hb' : inf.bytes = bytes := by simpa [hinf] using hT.by_
      have hzc : z.cells.size = t.w := by rw [← hzl, ← hz]; simp
      have e1 : Act.eval ⟨tm, []⟩ x = .slice none 0 0 := (hi.ev_one hx).1
      have e2 := hi.ev_i hy
      have hbd' : m * bytes ≤ 140737488355328 := Int.ofNat_le.1 (by rw [Int.natCast_mul]; exact hbd)
      have hml' : m ≤ maxLen := by show m ≤ 2 ^ 63 - 1; omega
      have hrun := Go.Lib.run_append_nil_zeros (P := P) w ty tn o.type e inf z k kn hT.ty htn' hinf hzz m (by omega) (by rw [hsz']; exact hT.pos) hml (by rw [hb']; omega)
      have hge := grownCap_ge w m 0 e
      have hcm := grownCap_le_maxLen w m 0 e hml'
      have hB2 : Go.RowKit.Below w.heap.size w (w.drew.alloc (.cells (Builtin.zeroCells z.cells m ++ Builtin.zeroCells z.cells (grownCap w m 0 e - m)) e)) := ⟨rfl, rfl, rfl, by simp, fun k hk => heap_alloc_old w.drew _ k hk⟩
      have hi' := hi.grow hB2
      have hzr : ∀ m, (Builtin.zeroCells z.cells m).toList = (List.replicate m zs).flatten := by
        intro m
        have := made_eq (z := z) (zs := zs) (n := m) (size := t.w) hz hzl
        rw [← this]
        simp [Builtin.zeroCells, madeCells, hzc]
      have hrow : RT w I t z0 zs := mkT_ok hi hzt (by simp) fun j c hj => by
        simp only [List.getElem?_map, Option.map_eq_some_iff] at hj
        obtain ⟨v, hv, rfl⟩ := hj
        exact ⟨v, hv, CR.ofZ⟩
      have hrows : ∀ (w' : World), (∀ b, I b → ∀ o, w'.cell? ⟨b, o, none⟩ = w.cell? ⟨b, o, none⟩) → ∀ k, Rows (RR w' I false t) (List.replicate k z0) (List.replicate k zs).flatten [] := by
        intro w' hw k
        induction k with
        | zero => exact ⟨rfl, rfl⟩
        | succ k ih => exact ⟨zs, _, [], [], by simp [List.replicate_succ], rfl, ⟨rfl, hrow.kept (fun _ h => h) hw⟩, ih⟩
      have hown : (w.drew.alloc (.cells (Builtin.zeroCells z.cells m ++ Builtin.zeroCells z.cells (grownCap w m 0 e - m)) e)).ownsRow 0 e t.w (.slice (some ⟨w.heap.size, 0, none⟩) m (grownCap w m 0 e)) (List.replicate m z0).length (List.replicate m zs).flatten := by
        rw [List.length_replicate]
        have hfl : ∀ r ∈ List.replicate m zs, r.length = t.w := fun r hr => by rw [List.eq_of_mem_replicate hr]; exact hzl
        refine ⟨by rw [flat_len hfl]; simp, .inr ⟨w.heap.size, _, _, rfl, Nat.zero_le _, heap_alloc_new w.drew _, hge, hcm, ?_, ?_⟩⟩
        · simp only [Array.size_append, size_zeroCells, hzc, ← Nat.add_mul]
          rw [Nat.add_sub_cancel' hge]
        · rw [Array.toList_append, hzr]
          have : (List.replicate m zs).flatten.length = m * t.w := by rw [flat_len hfl]; simp
          rw [← this]
          exact List.take_left
      have hnew := hi'.newRows (o := id) (e := e) (dp := false) (v := .slice (some ⟨w.heap.size, 0, none⟩) m (grownCap w m 0 e)) (L := [w.heap.size]) (newO_ok hid).1 (fun v hv => absurd hv ((hi'.noE' (newO_ok hid).2).2 v)) (hi'.noE' (newO_ok hid).2).1 (by simp) (fun b hb => by simp at hb; subst hb; exact free_new hi (Nat.le_refl _))
        ⟨_, [], .of hown, hrows _ (fun b hb o => cell_block (heap_alloc_old w.drew _ b (hi.immX b hb).1) o) m, by simp [Value.ownBlock]⟩
      refine ⟨.slice (some ⟨w.heap.size, 0, none⟩) m (grownCap w m 0 e), _, I, _, ?_, hnew, shape_one rfl ?_⟩
      · simp [execOp, ho, resolve, invoke, builtin, e1, e2, hrun]
      · show seeO _ _ _ _ _ ((σ.setO _ _).objs _) _ _
        rw [St.setO_same, Gh.setO_eq.2.1]
        rfl
theorem op_cut [Glob] {o : Oper} {t' id k : Nat} {ty e e' : TypeId} {x : Operand} {hb : Option Operand} {t : Ty} {dp : Bool} {xs : List t.T} {h : Option Int} {N : St → Prop} (ho : o.op = .slice ty x none hb none) (hd : o.dst = some t') (ht : Nat.blt t' σ.n = true) (he : elemB P ty = some e') (hs : sizeB P e' = some t.w) (hx : σ.ev x = .one (.rf k .ar)) (hq : σ.objs k = some (.rows e t dp xs)) (hbd : bnd σ.ev hb = some h) (hid : newO (σ.setO k .dead).objs t' = some id)
    (h0 : 0 ≤ h.getD xs.length) (h1 : h.getD xs.length ≤ xs.length) (hN : N (σ.over [(t', .one (.rf id .ar))] [(id, some (.rows e t dp (xs.take (h.getD xs.length).toNat))), (k, some .dead)])) : OpW P o N σ := by
  refine OpW_obj (σ' := (σ.setO k .dead).setO id (.rows e t dp (xs.take (h.getD xs.length).toNat))) hd ht rfl (fun K w I g tm hi => ?_) hN
  generalize hn' : (h.getD xs.length).toNat = n
  have hn : n ≤ xs.length := by omega
  have hu : Act.eval ⟨tm, []⟩ x = g.base k := by
    have hc' : seeO w I (g.addr k) (g.base k) (g.L k) (σ.objs k) .ar (Act.eval ⟨tm, []⟩ x) := (hi.ev_one hx).1
    rw [hq] at hc'; exact hc'
  obtain ⟨b1, b2⟩ := bnd_ok hi hbd
  obtain ⟨vs, L', hor, hrows, hL⟩ := hi.rows hq
  obtain ⟨hk1, hk2⟩ := hi.kill hq
  have hx2 : xs = xs.take n ++ xs.drop n := (List.take_append_drop _ _).symm
  have hvl := hor.1
  rw [hx2] at hrows
  obtain ⟨u1, u2, L1, L2, hvs, hL12, r1, r2⟩ := hrows.split
  have hu1 : u1.length = n * t.w := by rw [r1.len (fun _ _ _ h => h.len), List.length_take, Nat.min_eq_left hn]
  have res : ∃ v', (execOp (Act.eval ⟨tm, []⟩) o).run P w = .ok (.value v') w ∧ ownsR w e t.w v' n u1 ∧ v'.ownBlock = (g.base k).ownBlock ∧ v'.oneCell' = true := by
    rcases hor.2 with ⟨hb0, hn0⟩ | ⟨b, f1, cap, cur, hb0, hg, hnc, hcm, hcs, htake⟩
    · have hrun := run_sliceB (P := P) (elemB_ok he) hs (lo := none) (l := none) (hi' := hb.map (Act.eval ⟨tm, []⟩)) (h := h) (fun v hv => by cases hv) (fun _ => rfl) b1 b2 none 0 0 (Nat.le_refl _) (by simp) (by simp; rw [hn0] at h0; simpa using h0) (by rw [hn0] at h1; simpa using h1) w
      have hz0 : n = 0 := by omega
      have e0 : (h.getD ((0 : Nat) : Int)).toNat = 0 := by rw [hn0] at h1; omega
      refine ⟨.slice none 0 0, ?_, ⟨by rw [hu1, hz0], .inl ⟨rfl, hz0⟩⟩, by rw [hb0], rfl⟩
      simp only [execOp, ho, hu, hb0, Option.map_none, Sem.run_bind] at hrun ⊢
      rw [hrun, e0]
      simp [sliced]
    · have hrun := run_sliceB (P := P) (elemB_ok he) hs (lo := none) (l := none) (hi' := hb.map (Act.eval ⟨tm, []⟩)) (h := h) (fun v hv => by cases hv) (fun _ => rfl) b1 b2 (some ⟨b, f1, none⟩) xs.length cap hnc (by simp) (by simpa using h0) h1 w
      refine ⟨.slice (some ⟨b, f1, none⟩) n cap, ?_, ⟨hu1, .inr ⟨b, f1, cap, cur, rfl, hg, Nat.le_trans hn hnc, hcm, hcs, ?_⟩⟩, by rw [hb0]; rfl, rfl⟩
      · simp only [execOp, ho, hu, hb0, Option.map_none, Sem.run_bind] at hrun ⊢
        rw [hrun, hn']
        simp [sliced, addr_add]
      · have : vs.take (n * t.w) = u1 := by rw [hvs, ← hu1, List.take_left]
        rw [← this, ← htake, List.take_take]
        rw [Nat.min_eq_left (Nat.mul_le_mul_right t.w hn)]
  obtain ⟨v', hrun, hrow, hblk, hone⟩ := res
  have hnod := hi.nod k
  rw [hL, hL12] at hnod
  have hsub : ∀ b ∈ v'.ownBlock.toList ++ L1, b ∈ g.L k := fun b hb => by
    rw [hL, hL12]
    simp only [List.mem_append] at hb ⊢
    rw [hblk] at hb
    exact hb.imp (fun h => h) .inl
  have hnd : (v'.ownBlock.toList ++ L1).Nodup := by
    rw [hblk]
    simp only [List.nodup_append, List.mem_append] at hnod ⊢
    obtain ⟨n1, ⟨n2, _, _⟩, n4⟩ := hnod
    exact ⟨n1, n2, fun a ha c hc => n4 a ha c (.inl hc)⟩
  have hnew := hk1.newRows (o := id) (e := e) (t := t) (dp := dp) (xs := xs.take n) (v := v') (L := v'.ownBlock.toList ++ L1) (newO_ok hid).1 (fun v hv => absurd hv ((hk1.noE' (newO_ok hid).2).2 v)) (hk1.noE' (newO_ok hid).2).1 hnd (fun b hb => hk2 b (hsub b hb)) ⟨u1, L1, by rw [List.length_take, Nat.min_eq_left hn]; exact hrow, r1, rfl⟩
  refine ⟨v', w, I, _, hrun, hnew, shape_one hone ?_⟩
  show seeO _ _ _ _ _ (((σ.setO k .dead).setO _ _).objs _) _ _
  rw [St.setO_same, Gh.setO_eq.2.1]
  rfl
end Go.LX

/- A row of an owned slice told anew, with all that it owns; make of rows that own. -/
set_option linter.unusedVariables false
set_option linter.unusedSimpArgs false
namespace Go.LX

variable {P : Program} {σ : St}

theorem op_storeD [Glob] {o : Oper} {ty e : TypeId} {x y : Operand} {q i : Nat} {t : Ty} {xs : List t.T} {cs : List C} {os : List Nat} {x' : t.T} {N : St → Prop} (ho : o.op = .store ty x y) (hd : o.dst = none)
    (hx : σ.ev x = .one (.rf q (.pe i 0))) (hq : σ.objs q = some (.rows e t true xs)) (hf : (σ.ev y).flat = some cs) (hsz : sizeB P ty = some t.w) (hn : (Nat.blt 0 t.w && Nat.beq t.w cs.length) = true)
    (hx' : mkD σ.objs t cs = some x') (hos : mkDo t cs = os) (hnd : nodB (q :: os) = true) (hN : N ((σ.kills os).hand [(q, .own e t true (xs.set i x'))])) : OpW P o N σ := by
  refine OpW_do (σ' := (σ.kills os).hand [(q, .own e t true (xs.set i x'))]) hd (fun K w I g tm hi => ?_) hN
  subst hos
  obtain ⟨hn0, hn⟩ := Bool.and_eq_true_iff.1 hn
  have hn0 := Nat.le_of_ble_eq_true hn0
  have hn := Nat.eq_of_beq_eq_true hn
  have hnd := nodB_ok hnd
  obtain ⟨hqos, hnd⟩ := List.nodup_cons.1 hnd
  have hp : seeO w I (g.addr q) (g.base q) (g.L q) (σ.objs q) (.pe i 0) (Act.eval ⟨tm, []⟩ x) := (hi.ev_one hx).1
  rw [hq] at hp
  obtain ⟨b, f0, cap, hb, hlt, ea⟩ := hp
  obtain ⟨h1, h2⟩ := hi.ev y rfl
  obtain ⟨q1, q2, q3⟩ := shape_cells hf h1
  have hnew : ∀ (i : Nat) (c : C), cs[i]? = some c → ∃ u, (Act.eval ⟨tm, []⟩ y).cells.toList[i]? = some u ∧ CR w I g σ.objs c u := by
    intro i c hc
    obtain ⟨u, hu, hr⟩ := h2 i c (by rw [flat_cells hf]; exact hc)
    rw [q1] at hu
    exact ⟨u, hu, hr⟩
  generalize hvs : (Act.eval ⟨tm, []⟩ y).cells.toList = vs at *
  obtain ⟨hot, hrows3⟩ := mkD_ok hi (us := vs) hx' q2 hnew
  obtain ⟨g1, r1, r2, r3, r4, r5, r6⟩ := hi.kills hnd hrows3
  have hq1 : (σ.kills (mkDo t cs)).objs q = some (.rows e t true xs) := by rw [(r4 q hqos).2]; exact hq
  have hLq : g1.L q = g.L q := (r4 q hqos).1
  have hbase : g1.base q = g.base q := by rw [r3]
  have hnod := hi.nod q
  obtain ⟨vs0, L', hor, hrows, hL⟩ := hi.rows hq
  rw [hb] at hor
  obtain ⟨u1, us, u2, L1, L0, L2, hvs0, hL', hu1, hul, hfront, _, hbehind⟩ := hrows.at (fun _ _ _ h => h.len) (List.getElem?_eq_getElem hlt)
  have hgL : g.L q = b :: (L1 ++ L0 ++ L2) := by rw [hL, hb, hL']; simp [Value.ownBlock]
  have hown : b ∈ g.L q := by rw [hgL]; simp
  have hnewfree : ∀ c ∈ (mkDo t cs).flatMap g.L, Free K I g1 c ∧ c ∉ g.L q := by
    intro c hc
    obtain ⟨y, hy1, hy2⟩ := List.mem_flatMap.1 hc
    obtain ⟨e1, t1, d1, z1, hr⟩ := hrows3 y hy1
    refine ⟨⟨(hi.own y c hy2).1, fun z hz => ?_, hi.own_mine hr (fun _ h => by cases h) hy2⟩, fun hcq => hqos (hi.dis q y c hcq hy2 ▸ hy1)⟩
    by_cases hm : z ∈ mkDo t cs
    · rw [r5 z hm] at hz; simp at hz
    · rw [(r4 z hm).1] at hz
      exact hm (hi.dis z y c hz hy2 ▸ hy1)
  have hnewlt : ∀ c ∈ (mkDo t cs).flatMap g.L, c < w.heap.size := fun c hc => by
    obtain ⟨y, _, hy2⟩ := List.mem_flatMap.1 hc
    exact hi.ob_lt hy2
  have hroom : ∀ k, k < vs.length → (w.cell? ⟨b, f0 + i * t.w + k, none⟩).isSome = true ∧ w.frozen? ⟨b, f0 + i * t.w + k, none⟩ = false := by
    intro k hk
    have hlt2 : i * t.w + k < vs0.length := by
      have hlen : vs0.length = xs.length * t.w := hor.1
      have : (i + 1) * t.w ≤ xs.length * t.w := Nat.mul_le_mul_right _ hlt
      rw [Nat.add_mul] at this
      rw [hlen]; omega
    have := hor.cells (i * t.w + k) _ (List.getElem?_eq_getElem hlt2)
    rw [← Nat.add_assoc] at this
    exact ⟨by rw [this]; rfl, hor.frozenAt _⟩
  have hrun : (execOp (Act.eval ⟨tm, []⟩) o).run P w = .ok .skip (putC w b (f0 + i * t.w) vs) := by
    have := run_storeVar_box (P := P) (ty := ty) (b := b) (o := f0 + i * t.w) (w := w) (v := Act.eval ⟨tm, []⟩ y) (by rw [hsz, hn, ← q2, ← hvs, Array.length_toList]) (by rw [hvs]; exact hroom) (by rw [hvs]; exact q3)
    rw [hvs] at this
    simp [execOp, ho, ea, Instr.storeAt, Instr.sureAddr, this]
  have hown' := ownsR_putC (vs := vs) (j := i * t.w) hor
  obtain ⟨f1, f2, f3, f4, f5, f6, f7⟩ := putC_facts (b := b) (vs := vs) (o := f0 + i * t.w) (w := w) (fun k hk => (hroom k hk).1)
  generalize putC w b (f0 + i * t.w) vs = w' at f1 f2 f3 f4 f5 f6 f7 hrun hown'
  have hmid : setL vs0 (i * t.w) vs = u1 ++ vs ++ u2 := by
    rw [setL_all (by rw [hvs0]; simp; omega), hvs0, ← hu1]
    have e1 : (u1 ++ us ++ u2).take u1.length = u1 := by rw [List.append_assoc, List.take_left]
    have e2 : (u1 ++ us ++ u2).drop (u1.length + vs.length) = u2 := by
      rw [show u1.length + vs.length = (u1 ++ us).length by simp; omega, List.drop_left]
    rw [e1, e2]
  rw [hmid] at hown'
  rw [hgL] at hnod
  have hne : ∀ c ∈ L1 ++ L0 ++ L2, c ≠ b := by
    rintro c hc rfl
    exact (List.nodup_cons.1 hnod).1 hc
  have hIc : ∀ c, I c → ∀ fo, w'.cell? ⟨c, fo, none⟩ = w.cell? ⟨c, fo, none⟩ := fun c hc fo => cell_block (f3 c fun h => (hi.own q b hown).1 (h ▸ hc)) fo
  have hkeep : ∀ {z : t.T} {u : List Value} {M : List Nat}, (∀ c ∈ M, c ≠ b) → OT w t z u M → OT w' t z u M := fun hM h => OT.kept (fun c hc => f3 c (hM c hc)) h
  have hoa : OA w' I true e t (xs.set i x') (g1.base q) (b :: (L1 ++ (mkDo t cs).flatMap g.L ++ L2)) := by
    rw [hbase, hb]
    refine ⟨u1 ++ vs ++ u2, L1 ++ (mkDo t cs).flatMap g.L ++ L2, by rw [List.length_set]; exact hown', ?_, rfl⟩
    rw [List.set_eq_take_append_cons_drop, if_pos hlt, List.append_assoc, List.append_assoc]
    refine Rows.append (hfront.mono fun z u M _ hM h => hkeep (fun c hc => hne c (by simp [hM c hc])) h) ?_
    exact ⟨vs, u2, _, L2, rfl, rfl, hkeep (fun c hc h => (hnewfree c hc).2 (h ▸ hown)) hot, hbehind.mono fun z u M _ hM h => hkeep (fun c hc => hne c (by simp [hM c hc])) h⟩
  have hgr : Grow w w' fun c => ∃ z ∈ [(q, S0.own e t true (xs.set i x'))], c ∈ g1.L z.1 := ⟨f5, f6, f7, by omega, fun c _ hc => f3 c fun h => hc ⟨(q, S0.own e t true (xs.set i x')), by simp, by show c ∈ g1.L q; rw [hLq, h]; exact hown⟩⟩
  have hnodf : (b :: (L1 ++ (mkDo t cs).flatMap g.L ++ L2)).Nodup := by
    have hflat := flat_nodup hi.dis hi.nod hnd
    have hdq : ∀ c ∈ (mkDo t cs).flatMap g.L, c ∉ b :: (L1 ++ L0 ++ L2) := fun c hc => by rw [← hgL]; exact (hnewfree c hc).2
    simp only [List.nodup_cons, List.nodup_append, List.mem_append] at hnod ⊢
    obtain ⟨m1, ⟨m2, m3, m4⟩, m5, m6⟩ := hnod
    refine ⟨?_, ⟨m2, hflat, ?_⟩, m5, ?_⟩
    · rintro ((h | h) | h)
      · exact m1 (.inl (.inl h))
      · exact hdq b h (by simp)
      · exact m1 (.inr h)
    · rintro a ha c hc rfl
      exact hdq a hc (by simp [ha])
    · rintro a (ha | ha) c hc rfl
      · exact m6 a (.inl ha) a hc rfl
      · exact hdq a ha (by simp [hc])
  have hone : ∀ {z : Nat × S0}, z ∈ [(q, S0.own e t true (xs.set i x'))] → z = (q, S0.own e t true (xs.set i x')) := fun h => by simpa using h
  refine ⟨w', I, _, hrun, r1.handed (hs := [(q, .own e t true (xs.set i x'))]) (by simp) (fun z hz => by rw [hone hz]; exact ⟨_, _, _, _, hq1, rfl⟩) hgr (fun _ h => h) (fun c hc => ⟨by rw [f4]; exact (hi.immX c hc).1, fun _ => .inl hc⟩)
    (fun z => if z = q then b :: (L1 ++ (mkDo t cs).flatMap g.L ++ L2) else []) (fun z hz => by rw [hone hz]; simp only [if_true]; exact hoa) (fun z => ?_) (fun z z' c hz hz' => ?_) (fun z hz c hc => ?_)⟩
  · by_cases ez : z = q
    · simp only [ez, if_true]; exact hnodf
    · simp only [ez, if_false]; exact List.nodup_nil
  · by_cases ez : z = q <;> by_cases ez' : z' = q
    · rw [ez, ez']
    · simp [ez'] at hz'
    · simp [ez] at hz
    · simp [ez] at hz
  · rw [hone hz] at hc
    simp only [if_true] at hc
    have hcase : c ∈ (mkDo t cs).flatMap g.L ∨ c ∈ g.L q := by
      rw [hgL]
      simp only [List.mem_cons, List.mem_append] at hc ⊢
      rcases hc with h | ((h | h) | h)
      · exact .inr (.inl h)
      · exact .inr (.inr (.inl (.inl h)))
      · exact .inl h
      · exact .inr (.inr (.inr h))
    rcases hcase with h | h
    · exact ⟨(hnewfree c h).1.i, by rw [f4]; exact hnewlt c h, fun _ => .inr (hnewfree c h).1⟩
    · exact ⟨(hi.own q c h).1, by rw [f4]; exact hi.ob_lt h, fun _ => .inl ⟨(q, S0.own e t true (xs.set i x')), by simp, by show c ∈ g1.L q; rw [hLq]; exact h⟩⟩
/-- make of rows that own nothing yet. -/
theorem op_makeD [Glob] {o : Oper} {t' id bytes : Nat} {ty e : TypeId} {x y : Operand} {k k' : IntKind} {n : Int} (t : Ty) {z0 : t.T} {zs : List Value} {N : St → Prop} (ho : o.op = .makeSlice ty x y) (hd : o.dst = some t') (ht : Nat.blt t' σ.n = true) (he : elemB P ty = some e) (hty : tyOf P 9 e = some t) (hx : σ.ev x = .one (.d (.i k) n)) (hy : σ.ev y = .one (.d (.i k') n)) (hby : bytesB P e = some bytes) (hT : tyB P ty e t.w bytes = true)
    (hz : zeroB P e = some zs) (hzt : mkD σ.objs t (zs.map C.ofZ) = some z0) (hos : mkDo t (zs.map C.ofZ) = []) (hid : newO σ.objs t' = some id) (h0 : 0 ≤ n) (hbd : n * bytes ≤ 281474976710656) (hml : n ≤ 9223372036854775807)
    (hN : N (σ.over [(t', .one (.rf id .ar))] [(id, some (.rows e t true (List.replicate n.toNat z0)))])) : OpW P o N σ := by
  refine OpW_obj (σ' := σ.setO id (.rows e t true (List.replicate n.toNat z0))) hd ht rfl (fun K w I g tm hi => ?_) hN
  have hT := tyB_ok hT
  obtain ⟨m, rfl⟩ := Int.eq_ofNat_of_zero_le h0
  simp only [Int.toNat_natCast]
  obtain ⟨zs', hz', hzl⟩ := hT.z
  rw [hz] at hz'
  cases hz'
  have hzr := hz
  unfold zeroB at hz
  cases hinf : P.info? e with
  | none => simp [hinf] at hz
  | some inf =>
    cases hzz : inf.zero with
    | none => simp [hinf, hzz] at hz
    | some z =>
      simp [hinf, hzz] at hz
      have hsz' : inf.size = t.w := by simpa [sizeB, hinf] using hT.sz
      have hb' : inf.bytes = bytes := by simpa [hinf] using hT.by_
      obtain ⟨w', hr, ho', hg⟩ := run_make_full (P := P) w 0 ty e inf z t.w hT.ty hinf hzz hsz' k k' m (by rw [hb', Nat.mul_comm]; exact Int.ofNat_le.1 (by rw [Int.natCast_mul]; exact hbd)) (by show m ≤ 2 ^ 63 - 1; omega) (Nat.zero_le _)
      rw [made_eq hz hzl] at ho'
      have hgr := (Grow.of_grownBy hg).mono (T' := fun _ => False) fun b hb => by cases hb
      have hi' := hi.scrib hgr fun _ h => h.elim
      have hrow : OT w t z0 zs [] := by
        have := (mkD_ok hi (us := zs) hzt (by simp) fun j c hj => by
          simp only [List.getElem?_map, Option.map_eq_some_iff] at hj
          obtain ⟨v, hv, rfl⟩ := hj
          exact ⟨v, hv, CR.ofZ⟩).1
        rw [hos] at this
        exact this
      have hrows : ∀ m, Rows (RR w' I true t) (List.replicate m z0) (List.replicate m zs).flatten [] := by
        intro m
        induction m with
        | zero => exact ⟨rfl, rfl⟩
        | succ m ih => exact ⟨zs, _, [], [], by simp [List.replicate_succ], rfl, OT.kept (fun b hb => by simp at hb) hrow, ih⟩
      have hnew := hi'.newRows (o := id) (e := e) (dp := true) (v := .slice (some ⟨w.heap.size, 0, none⟩) m m) (L := [w.heap.size]) (newO_ok hid).1 (fun v hv => absurd hv ((hi'.noE' (newO_ok hid).2).2 v)) (hi'.noE' (newO_ok hid).2).1 (by simp) (fun b hb => by simp at hb; subst hb; exact free_new hi (Nat.le_refl _))
        ⟨_, [], by rw [List.length_replicate]; exact .of ho', hrows m, by simp [Value.ownBlock]⟩
      refine ⟨_, w', I, _, ?_, hnew, shape_one (u := .slice (some ⟨w.heap.size, 0, none⟩) m m) rfl ?_⟩
      · simp only [execOp, ho, Sem.run_bind, hi.ev_i hx, hi.ev_i hy, hr, Result.andThen_ok]; rfl
      · show seeO _ _ _ _ _ ((σ.setO _ _).objs _) _ _
        rw [St.setO_same, Gh.setO_eq.2.1]
        rfl
end Go.LX

/- A box's nil slice, told as an owned slice without rows. -/
set_option linter.unusedVariables false
set_option linter.unusedSimpArgs false
namespace Go.LX
section
variable {σ : St}
def St.ownNl (σ : St) (q id j : Nat) (e : TypeId) (t : Ty) (cs : List C) : St := (σ.setO id (.rows e t true [])).setO q (.cells (cs.set j (.rf id .ar)))
theorem Wk_nl [Glob] {q id j : Nat} (e : TypeId) (t : Ty) {cs : List C} (hq : σ.objs q = some (.cells cs)) (hj : cs[j]? = some .nl) (hid : σ.objs id = none) (h1000 : Nat.ble 1000 id = true) : Wk σ (σ.ownNl q id j e t cs) := by
  intro K w I g tm hi
  have hid' : (1000 : Nat) ≤ id := Nat.le_of_ble_eq_true h1000
  have hn := hi.newRows (o := id) (e := e) (t := t) (dp := true) (xs := []) (v := .slice none 0 0) (L := []) hid (fun v hv => absurd hv ((hi.noE' hid').2 v)) (hi.noE' hid').1 List.nodup_nil (fun _ h => by simp at h)
    ⟨[], [], ⟨by simp, .inl ⟨rfl, rfl⟩⟩, ⟨rfl, rfl⟩, rfl⟩
  have hne : q ≠ id := fun he => by rw [he, hid] at hq; cases hq
  have hq' : (σ.setO id (.rows e t true [])).objs q = some (.cells cs) := by rw [St.setO_other _ _ _ _ hne]; exact hq
  obtain ⟨hL, hbx⟩ := hn.cells hq'
  refine ⟨I, _, hn.tellBox hq' (by simp) fun i c hc => ?_⟩
  by_cases e : i = j
  · subst e
    obtain ⟨u, h1, _, _, _, h5⟩ := hbx i .nl hj
    refine ⟨u, h1, ?_⟩
    have hlt : i < cs.length := (List.getElem?_eq_some_iff.1 hj).1
    rw [List.getElem?_set_self (by simpa using hlt)] at hc
    cases hc
    show seeO _ _ _ _ _ ((σ.setO id _).objs id) _ _
    rw [St.setO_same, Gh.setO_eq.2.1]
    exact h5
  · rw [List.getElem?_set_ne (Ne.symm e)] at hc
    obtain ⟨u, h1, _, _, _, h5⟩ := hbx i c hc
    exact ⟨u, h1, h5⟩
end
end Go.LX

