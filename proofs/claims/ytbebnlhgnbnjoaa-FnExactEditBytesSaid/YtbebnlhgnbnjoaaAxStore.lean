/- Stores into boxes, as operations. -/
import Derived.Test.YtbebnlhgnbnjoaaAxNew
namespace Go.AX

variable {P : Program} {σ : St}

theorem op_store {o : Oper} {ty : TypeId} {x y : Operand} {bx c : Nat} {s : SV} {cs cs' : List C} {N : St → Prop} (ho : o.op = .store ty x y) (hd : o.dst = none)
    (hx : σ.ev x = .one (.bp bx c)) (hb : σ.boxes bx = some cs) (hy : σ.evv y = s) (hf : s.flat = some cs') (hany : cs'.all C.known = true) (hsz : sizeB P ty = some cs'.length) (hl : c + cs'.length ≤ cs.length) (hpos : 0 < cs'.length)
    (hno : ((cs.drop c).take cs'.length).all (fun c => !c.isOw) = true) (hN : N (σ.setBox bx (cs.take c ++ cs' ++ cs.drop (c + cs'.length)))) : OpW P o N σ := by
  intro K w I g tm hi
  obtain ⟨pl, hp, _, _⟩ := hi.ev_one hx
  have ea : Act.eval ⟨tm, []⟩ x = .pointer (some ⟨(g.addr bx).1, (g.addr bx).2 + c, none⟩) := hp.1
  obtain ⟨h1, h2⟩ := hi.evv y hy
  obtain ⟨q1, q2⟩ := shape_cells hf h1
  have hcells := flat_cells hf
  have hbx := hi.boxc bx cs hb
  obtain ⟨i1, i2, i3, i4⟩ := hi.boxi bx (by rw [hb]; rfl)
  -- what is stored
  have hnew : ∀ (i : Nat) (c : C), cs'[i]? = some c → c.isOw = false ∧ ∃ u, (Act.eval ⟨tm, []⟩ y).cells.toList[i]? = some u ∧ u.oneCell' = true ∧ ∀ pl, CR w I g σ tm pl c u := by
    intro i c hc
    obtain ⟨how, u, hu, hr⟩ := h2 i c (by rw [hcells]; exact hc)
    rw [q1] at hu
    refine ⟨how, u, hu, (hr ⟨true, 0, 0⟩).one fun e => ?_, hr⟩
    have := List.all_eq_true.1 hany c (List.mem_of_getElem? hc)
    subst e; simp [C.known] at this
  have hone : ∀ u ∈ (Act.eval ⟨tm, []⟩ y).cells.toList, u.oneCell' = true := by
    intro u hu
    obtain ⟨i, hi', rfl⟩ := List.getElem_of_mem hu
    have hlt : i < cs'.length := by omega
    obtain ⟨_, u', hu', h1', _⟩ := hnew i cs'[i] (List.getElem?_eq_getElem hlt)
    rw [List.getElem?_eq_getElem hi'] at hu'
    rw [Option.some.inj hu']; exact h1'
  have hroom : ∀ j, j < (Act.eval ⟨tm, []⟩ y).cells.toList.length → (w.cell? ⟨(g.addr bx).1, (g.addr bx).2 + c + j, none⟩).isSome = true ∧ w.frozen? ⟨(g.addr bx).1, (g.addr bx).2 + c + j, none⟩ = false := by
    intro j hj
    have hlt : c + j < cs.length := by omega
    obtain ⟨u, e1, e2, _⟩ := hbx (c + j) cs[c + j] (List.getElem?_eq_getElem hlt)
    rw [Nat.add_assoc]
    exact ⟨by rw [e1]; rfl, e2⟩
  have hrun : (execOp (Act.eval ⟨tm, []⟩) o).run P w = .ok .skip (putC w (g.addr bx).1 ((g.addr bx).2 + c) (Act.eval ⟨tm, []⟩ y).cells.toList) := by
    have := run_storeVar_box (P := P) (ty := ty) (b := (g.addr bx).1) (o := (g.addr bx).2 + c) (w := w) (v := Act.eval ⟨tm, []⟩ y) (by rw [hsz, ← q2, Array.length_toList]) hroom hone
    simp [execOp, ho, ea, Instr.storeAt, Instr.sureAddr, this]
  rw [hrun]
  simp only [Oper.upon, Act.put, hd]
  obtain ⟨f1, f2, f3, f4, f5, f6, f7⟩ := putC_facts (b := (g.addr bx).1) (vs := (Act.eval ⟨tm, []⟩ y).cells.toList) (o := (g.addr bx).2 + c) (w := w) (fun j hj => (hroom j hj).1)
  generalize putC w (g.addr bx).1 ((g.addr bx).2 + c) (Act.eval ⟨tm, []⟩ y).cells.toList = w' at f1 f2 f3 f4 f5 f6 f7 ⊢
  generalize hvs : (Act.eval ⟨tm, []⟩ y).cells.toList = vs at *
  refine ⟨trivial, _, I, g, hN, ?_⟩
  -- the box's cells now
  have hcs : ∀ j, (cs.take c ++ cs' ++ cs.drop (c + cs'.length))[j]? = if c ≤ j ∧ j < c + cs'.length then cs'[j - c]? else cs[j]? := by
    intro j
    have hlc : (cs.take c).length = c := by simp; omega
    by_cases hj : c ≤ j ∧ j < c + cs'.length
    · rw [if_pos hj, List.append_assoc, List.getElem?_append_right (by omega), hlc, List.getElem?_append_left (by omega)]
    · rw [if_neg hj]
      by_cases hj2 : j < c
      · rw [List.append_assoc, List.getElem?_append_left (by omega), List.getElem?_take, if_pos hj2]
      · rw [List.getElem?_append_right (by simp; omega), List.getElem?_drop]
        congr 1
        simp only [List.length_append, hlc]
        omega
  have hab : ∀ p, p ≠ (⟨true, bx, p.c⟩ : Pl) ∨ ¬ (c ≤ p.c ∧ p.c < c + cs'.length) → (σ.setBox bx (cs.take c ++ cs' ++ cs.drop (c + cs'.length))).absAt p = σ.absAt p := by
    intro p hp
    unfold St.absAt
    split
    · rename_i hbx'
      by_cases e : p.id = bx
      · have hp' : ¬ (c ≤ p.c ∧ p.c < c + cs'.length) := by
          rcases hp with hp | hp
          · exact absurd (by cases p; simp_all) hp
          · exact hp
        simp only [St.setBox, e, Nat.beq_refl, cond_true, hb, Option.bind_some]
        rw [hcs, if_neg hp']
      · simp only [St.setBox, beq_ne e, cond_false]
    · rfl
  -- a place that owns is not among the cells written
  have hown : ∀ p e size k rs, σ.absAt p = some (.ow e size k rs) → p ≠ (⟨true, bx, p.c⟩ : Pl) ∨ ¬ (c ≤ p.c ∧ p.c < c + cs'.length) := by
    intro p e size k rs hp
    by_cases hpb : p = (⟨true, bx, p.c⟩ : Pl)
    · right
      rintro ⟨l1, l2⟩
      rw [hpb] at hp
      simp only [St.absAt, if_true, hb, Option.bind_some] at hp
      have : ((cs.drop c).take cs'.length)[p.c - c]? = some (.ow e size k rs) := by
        rw [List.getElem?_take, if_pos (by omega), List.getElem?_drop, show c + (p.c - c) = p.c by omega]; exact hp
      have := List.all_eq_true.1 hno _ (List.mem_of_getElem? this)
      simp [C.isOw] at this
    · exact .inl hpb
  have hsome : ∀ o, ((σ.setBox bx (cs.take c ++ cs' ++ cs.drop (c + cs'.length))).boxes o).isSome = (σ.boxes o).isSome := by
    intro o
    by_cases e : o = bx
    · subst e; simp [St.setBox, hb]
    · simp [St.setBox, beq_ne e]
  have hcell : ∀ b' o', b' ≠ (g.addr bx).1 → w'.cell? ⟨b', o', none⟩ = w.cell? ⟨b', o', none⟩ := fun b' o' hne => by rw [f1, if_neg (fun hh => hne hh.1)]
  have hI : ∀ b, I b → b ≠ (g.addr bx).1 := fun b hb' e => i1 (e ▸ hb')
  have hL : ∀ p b, b ∈ g.L p → b ≠ (g.addr bx).1 := fun p b hb' e => i2 p (e ▸ hb')
  have hreal : ∀ p, (p ≠ (⟨true, bx, p.c⟩ : Pl) ∨ ¬ (c ≤ p.c ∧ p.c < c + cs'.length)) → σ.absAt p ≠ none → realAt w' g tm p = realAt w g tm p := by
    intro p hp hn
    unfold realAt
    split
    · rename_i hbx'
      by_cases e : p.id = bx
      · have hp' : ¬ (c ≤ p.c ∧ p.c < c + cs'.length) := by
          rcases hp with hp | hp
          · exact absurd (by cases p; simp_all) hp
          · exact hp
        rw [e, f1, if_neg]
        rintro ⟨_, l1, l2⟩
        exact hp' ⟨by omega, by omega⟩
      · refine hcell _ _ fun e' => e ?_
        have hps : (σ.boxes p.id).isSome = true := by
          simp only [St.absAt, hbx', if_true] at hn
          cases hq : σ.boxes p.id with
          | none => rw [hq] at hn; exact absurd rfl hn
          | some cs => rfl
        exact hi.boxd _ _ hps (by rw [hb]; rfl) e'
    · rfl
  have hCR : ∀ pl c0 u, (c0.isOw = true → ∃ q, q = pl) → CR w I g σ tm pl c0 u → CR w' I g (σ.setBox bx (cs.take c ++ cs' ++ cs.drop (c + cs'.length))) tm pl c0 u := by
    intro pl c0 u _ hcr
    have kept : ∀ d u, Rd w I d u → Rd w' I d u := fun d u h => h.kept (fun _ h => h) fun b hb' o => hcell _ _ (hI b hb')
    cases c0 with
    | d x => exact kept _ _ hcr
    | ow e size k rs => exact ⟨ROT.kept hcr.1 (fun _ h => h) (fun b hb' o => hcell _ _ (hI b hb')) fun b hb' => f3 b (hL _ b hb'), hcr.2⟩
    | vw p wh rs =>
      refine ⟨hcr.1.kept (fun _ h => h) fun b hb' o => ?_, fun hw => ?_⟩
      · rcases hb' with hb' | hb'
        · exact hcell _ _ (hI b hb')
        · exact hcell _ _ (hL _ b hb')
      · obtain ⟨a1, e, size, k, a2⟩ := hcr.2 hw
        have := hown p e size k rs a2
        exact ⟨by rw [hreal p this (by rw [a2]; simp)]; exact a1, e, size, k, by rw [hab p this]; exact a2⟩
    | bp o c => exact ⟨hcr.1, by rw [hsome]; exact hcr.2⟩
    | ep p i j =>
      obtain ⟨b, n, cap, e, size, k, rs, a1, a2, a3, a4⟩ := hcr
      have := hown p e size k rs a2
      exact ⟨b, n, cap, e, size, k, rs, by rw [hreal p this (by rw [a2]; simp)]; exact a1, by rw [hab p this]; exact a2, a3, a4⟩
    | fc fn caps =>
      obtain ⟨vs, a1, a2⟩ := hcr
      exact ⟨vs, a1, a2.mono fun o _ v hv => ⟨hv.1, by rw [hsome]; exact hv.2⟩⟩
    | nl => exact hcr
    | vp p cs =>
      refine Rd.kept hcr (fun _ h => h) fun b hb' o => ?_
      rcases hb' with hb' | hb'
      · exact hcell _ _ (hI b hb')
      · exact hcell _ _ (hL _ b hb')
    | any => trivial
  refine {
    fr := ?_
    size := hi.size
    imm0 := hi.imm0
    immX := fun b hb' => by rw [f4]; exact hi.immX b hb'
    dis := hi.dis
    nod := hi.nod
    own := fun p b hb' => by rw [f4]; exact hi.own p b hb'
    nil := fun p hp => ?_
    boxd := fun o o' ho' ho'' => hi.boxd o o' (by rw [← hsome]; exact ho') (by rw [← hsome]; exact ho'')
    boxi := fun o ho' => by rw [f4]; exact hi.boxi o (by rw [← hsome]; exact ho')
    boxc := fun o cs0 ho' j c0 hj => ?_
    shape := hi.shape
    slot := fun t i c0 hc0 => ?_ }
  · have hlt := hi.fr.size
    have notOld : ∀ b, b < K.w0.heap.size → ¬ K.X b → (∀ o, ¬ K.R b o) → b ≠ (g.addr bx).1 := by
      intro b hb' _ hR e
      have h0 : 0 < cs.length := by omega
      obtain ⟨u, _, _, _, e4, _⟩ := hbx 0 cs[0] (List.getElem?_eq_getElem h0)
      exact hR _ (by rw [e]; exact e4 (by rw [← e]; exact hb'))
    exact {
      os := f5.trans hi.fr.os
      tape := f6.trans hi.fr.tape
      output := f7.trans hi.fr.output
      size := by rw [f4]; exact hi.fr.size
      old := fun b hb' hX hR => (f3 b (notOld b hb' hX hR)).trans (hi.fr.old b hb' hX hR)
      part := fun b hb' hX o' hR => by
        rw [f1]
        split
        · rename_i hh
          obtain ⟨rfl, l1, l2⟩ := hh
          have hj : o' - (g.addr bx).2 < cs.length := by omega
          obtain ⟨u, _, _, _, e4, _⟩ := hbx (o' - (g.addr bx).2) cs[o' - (g.addr bx).2] (List.getElem?_eq_getElem hj)
          refine absurd (e4 hb') ?_
          rw [show (g.addr bx).2 + (o' - (g.addr bx).2) = o' by omega]
          exact hR
        · exact hi.fr.part b hb' hX o' hR
      froz := fun b hb' hX o' => (f2 b o').trans (hi.fr.froz b hb' hX o') }
  · refine hi.nil p fun e size k rs hh => hp e size k rs ?_
    rw [hab p (hown p e size k rs hh)]; exact hh
  · by_cases e : o = bx
    · subst e
      simp only [St.setBox, Nat.beq_refl, cond_true] at ho'
      obtain rfl := Option.some.inj ho'
      rw [hcs] at hj
      by_cases hjr : c ≤ j ∧ j < c + cs'.length
      · rw [if_pos hjr] at hj
        obtain ⟨how, u, hu, h1', hr⟩ := hnew (j - c) c0 hj
        have hjc : j < cs.length := by omega
        obtain ⟨_, _, e2, _, e4, _⟩ := hbx j cs[j] (List.getElem?_eq_getElem hjc)
        refine ⟨u, ?_, (f2 _ _).trans e2, h1', e4, hCR _ _ _ (fun _ => ⟨_, rfl⟩) (hr _)⟩
        rw [f1, if_pos ⟨rfl, by omega, by omega⟩, show (g.addr o).2 + j - ((g.addr o).2 + c) = j - c by omega]
        exact hu
      · rw [if_neg hjr] at hj
        obtain ⟨u, e1, e2, e3, e4, e5⟩ := hbx j c0 hj
        refine ⟨u, ?_, (f2 _ _).trans e2, e3, e4, hCR _ _ _ (fun _ => ⟨_, rfl⟩) e5⟩
        rw [f1, if_neg]
        · exact e1
        · rintro ⟨_, l1, l2⟩
          exact hjr ⟨by omega, by omega⟩
    · simp only [St.setBox, beq_ne e, cond_false] at ho'
      obtain ⟨u, e1, e2, e3, e4, e5⟩ := hi.boxc o cs0 ho' j c0 hj
      have hne : (g.addr o).1 ≠ (g.addr bx).1 := fun e' => e (hi.boxd o bx (by rw [ho']; rfl) (by rw [hb]; rfl) e')
      exact ⟨u, (hcell _ _ hne).trans e1, (f2 _ _).trans e2, e3, e4, hCR _ _ _ (fun _ => ⟨_, rfl⟩) e5⟩
  · obtain ⟨u, e1, e2⟩ := hi.slot t i c0 hc0
    exact ⟨u, e1, hCR _ _ _ (fun _ => ⟨_, rfl⟩) e2⟩

end Go.AX
