/- Steps that only turn what is told: views let go, owned slices dropped, given to another place, or kept for reading alone. -/
import Derived.Test.YtbebnlhgnbnjoaaAxMem
namespace Go.AX

variable {P : Program} {σ : St}

/-- Every cell turned by f. -/
def SV.map (f : C → C) : SV → SV
  | .one c => .one (f c)
  | .ag cs => .ag (cs.map f)
  | .tu xs => .tu (xs.map fun x => (x.1, x.2.map f))
  | .un => .un
def St.map (σ : St) (f : C → C) : St := { σ with slots := fun t => (σ.slots t).map f, boxes := fun o => (σ.boxes o).map (·.map f) }

theorem SV.map_cells (f : C → C) (s : SV) : (s.map f).cells = s.cells.map f := by
  cases s with
  | one c => rfl
  | ag cs => rfl
  | un => rfl
  | tu xs =>
    simp only [SV.map, SV.cells]
    induction xs with
    | nil => rfl
    | cons x xs ih => simp [ih]
theorem ShapeOK.map {f : C → C} {s : SV} {u : Value} (h : ShapeOK s u) : ShapeOK (s.map f) u := by
  cases s with
  | one c => exact h
  | ag cs => obtain ⟨us, h1, h2⟩ := h; exact ⟨us, h1, by simpa using h2⟩
  | un => trivial
  | tu xs =>
    obtain ⟨vs, h1, h2⟩ := h
    refine ⟨vs, h1, ?_⟩
    clear h1
    induction xs generalizing vs with
    | nil => cases vs with
      | nil => trivial
      | cons => exact h2.elim
    | cons x xs ih => cases vs with
      | nil => exact h2.elim
      | cons v vs =>
        refine ⟨?_, ih vs h2.2⟩
        have := h2.1
        simp only [List.length_map]
        exact this
theorem absAt_map (f : C → C) (p : Pl) : (σ.map f).absAt p = (σ.absAt p).map f := by
  unfold St.absAt
  split
  · simp only [St.map]
    cases σ.boxes p.id with
    | none => rfl
    | some cs => simp
  · simp [St.map, SV.map_cells]

/-- A place's cell set. -/
def setNth (l : List C) (i : Nat) (c : C) : List C := l.set i c
def SV.setC (s : SV) (i : Nat) (c : C) : SV :=
  match s with
  | .one _ => .one c
  | .ag cs => .ag (cs.set i c)
  | .tu xs => .tu (go xs i c)
  | .un => .un
where go : List (Bool × List C) → Nat → C → List (Bool × List C)
  | [], _, _ => []
  | x :: xs, i, c => if i < x.2.length then (x.1, x.2.set i c) :: xs else x :: go xs (i - x.2.length) c
def St.setP (σ : St) (p : Pl) (c : C) : St :=
  if p.box = true then { σ with boxes := fun o => bif Nat.beq o p.id then (σ.boxes o).map (·.set p.c c) else σ.boxes o }
  else { σ with slots := fun t => bif Nat.beq t p.id then (σ.slots t).setC p.c c else σ.slots t }

theorem setC_cells {s : SV} {i : Nat} {c c0 : C} (h : s.cells[i]? = some c0) : (s.setC i c).cells = s.cells.set i c := by
  cases s with
  | one c1 =>
    cases i with
    | zero => rfl
    | succ i => simp [SV.cells] at h
  | ag cs => rfl
  | un => simp [SV.cells] at h
  | tu xs =>
    simp only [SV.setC, SV.cells] at h ⊢
    induction xs generalizing i with
    | nil => simp at h
    | cons x xs ih =>
      simp only [SV.setC.go, List.flatMap_cons] at h ⊢
      split
      · rename_i hlt
        simp only [List.flatMap_cons]
        rw [List.set_append_left _ _ hlt]
      · rename_i hge
        simp only [List.flatMap_cons]
        rw [List.set_append_right _ _ (by omega)]
        rw [ih (by rw [List.getElem?_append_right (by omega)] at h; exact h)]
theorem ShapeOK.setC {s : SV} {u : Value} {i : Nat} {c : C} (h : ShapeOK s u) : ShapeOK (s.setC i c) u := by
  cases s with
  | one c1 => exact h
  | ag cs => obtain ⟨us, h1, h2⟩ := h; exact ⟨us, h1, by simpa using h2⟩
  | un => trivial
  | tu xs =>
    obtain ⟨vs, h1, h2⟩ := h
    refine ⟨vs, h1, ?_⟩
    clear h1
    induction xs generalizing vs i with
    | nil => cases vs with
      | nil => trivial
      | cons => exact h2.elim
    | cons x xs ih => cases vs with
      | nil => exact h2.elim
      | cons v vs =>
        simp only [SV.setC.go]
        split
        · refine ⟨?_, h2.2⟩
          have := h2.1
          simp only [List.length_set]
          exact this
        · exact ⟨h2.1, ih vs h2.2⟩

theorem beq_ne {a b : Nat} (h : a ≠ b) : Nat.beq a b = false := by
  cases hb : Nat.beq a b with
  | true => exact absurd (Nat.eq_of_beq_eq_true hb) h
  | false => rfl
theorem absAt_setP_same {p : Pl} {c c0 : C} (h : σ.absAt p = some c0) : (σ.setP p c).absAt p = some c := by
  unfold St.absAt at h ⊢
  unfold St.setP
  split
  · rename_i hb
    rw [if_pos hb] at h
    simp only [Nat.beq_refl, cond_true]
    cases hq : σ.boxes p.id with
    | none => simp [hq] at h
    | some cs =>
      simp [hq] at h
      have : p.c < cs.length := (List.getElem?_eq_some_iff.1 h).1
      simp [this]
  · rename_i hb
    rw [if_neg hb] at h
    simp only [Nat.beq_refl, cond_true]
    rw [setC_cells h]
    have : p.c < (σ.slots p.id).cells.length := (List.getElem?_eq_some_iff.1 h).1
    simp [this]
theorem absAt_setP_other {p q : Pl} {c c0 : C} (h : σ.absAt p = some c0) (hne : q ≠ p) : (σ.setP p c).absAt q = σ.absAt q := by
  unfold St.absAt at h ⊢
  unfold St.setP
  by_cases hb : p.box = true
  · rw [if_pos hb] at h ⊢
    split
    · rename_i hq
      by_cases hid : q.id = p.id
      · have hc : q.c ≠ p.c := fun e => hne (by cases p; cases q; simp_all)
        simp only [hid, Nat.beq_refl, cond_true]
        cases σ.boxes p.id with
        | none => rfl
        | some cs => simp [List.getElem?_set_ne (Ne.symm hc)]
      · simp only [beq_ne hid, cond_false]
    · rfl
  · rw [if_neg hb] at h ⊢
    split
    · rfl
    · rename_i hq
      by_cases hid : q.id = p.id
      · have hc : q.c ≠ p.c := fun e => hne (by cases p; cases q; simp_all)
        simp only [hid, Nat.beq_refl, cond_true]
        rw [setC_cells h, List.getElem?_set_ne (Ne.symm hc)]
      · simp only [beq_ne hid, cond_false]

/-- A state told anew, place by place, over the same machine. -/
theorem Inv.retell {K : Ctx} {w : World} {I I' : Nat → Prop} {g g' : Gh} {tm : Array Value} {σ' : St} (h : Inv K w I g σ tm) (hn : σ'.n = σ.n) (haddr : g'.addr = g.addr)
    (hshape : ∀ t, ShapeOK (σ'.slots t) (tm.getD t undef))
    (hbox : ∀ o, (σ'.boxes o).isSome = true → (σ.boxes o).isSome = true)
    (hcell : ∀ p c', σ'.absAt p = some c' → ∃ c, σ.absAt p = some c ∧ ∀ u, realAt w g tm p = some u → CR w I g σ tm p c u → CR w I' g' σ' tm p c' u)
    (imm0 : ∀ b, I b → I' b) (immX : ∀ b, I' b → I b ∨ ∃ p, b ∈ g.L p)
    (dis : ∀ p q b, b ∈ g'.L p → b ∈ g'.L q → p = q) (nod : ∀ p, (g'.L p).Nodup) (own : ∀ p b, b ∈ g'.L p → ¬ I' b ∧ ∃ q, b ∈ g.L q)
    (nil : ∀ p, (∀ e size k rs, σ'.absAt p ≠ some (.ow e size k rs)) → g'.L p = []) : Inv K w I' g' σ' tm where
  fr := h.fr
  size := by rw [hn]; exact h.size
  imm0 := fun b hb => imm0 b (h.imm0 b hb)
  immX := fun b hb => by
    rcases immX b hb with hb | ⟨p, hb⟩
    · exact h.immX b hb
    · exact ⟨(h.own p b hb).2.1, fun hlt => .inr ((h.own p b hb).2.2 hlt)⟩
  dis := dis
  nod := nod
  own := fun p b hb => by
    obtain ⟨h1, q, hq⟩ := own p b hb
    exact ⟨h1, (h.own q b hq).2⟩
  nil := nil
  boxd := fun o o' ho ho' => by rw [haddr]; exact h.boxd o o' (hbox o ho) (hbox o' ho')
  boxi := fun o ho => by
    obtain ⟨h1, h2, h3, h4⟩ := h.boxi o (hbox o ho)
    rw [haddr]
    refine ⟨fun hI => ?_, fun p hp => ?_, h3, h4⟩
    · rcases immX _ hI with hI | ⟨q, hq⟩
      · exact h1 hI
      · exact h2 q hq
    · obtain ⟨_, q, hq⟩ := own p _ hp
      exact h2 q hq
  boxc := fun o cs ho j c hj => by
    have hab : σ'.absAt ⟨true, o, j⟩ = some c := by simp [St.absAt, ho, hj]
    obtain ⟨c0, h0, hcr⟩ := hcell _ _ hab
    have hs := hbox o (by rw [ho]; rfl)
    cases hq : σ.boxes o with
    | none => rw [hq] at hs; cases hs
    | some cs0 =>
      have hj0 : cs0[j]? = some c0 := by simpa [St.absAt, hq] using h0
      obtain ⟨u, h1, h2, h3, h4, h5⟩ := h.boxc o cs0 hq j c0 hj0
      rw [haddr]
      exact ⟨u, h1, h2, h3, h4, hcr u (by unfold realAt; rw [if_pos rfl]; exact h1) h5⟩
  shape := hshape
  slot := fun t i c hi => by
    have hab : σ'.absAt ⟨false, t, i⟩ = some c := by simp [St.absAt, hi]
    obtain ⟨c0, h0, hcr⟩ := hcell _ _ hab
    have hi0 : (σ.slots t).cells[i]? = some c0 := by simpa [St.absAt] using h0
    obtain ⟨u, h1, h2⟩ := h.slot t i c0 hi0
    exact ⟨u, h1, hcr u (by unfold realAt; rw [if_neg (by simp)]; exact h1) h2⟩

/-- Views of p let go. -/
def C.kill (p : Pl) : C → C
  | .vw q wh rs => if q = p then .any else .vw q wh rs
  | .ep q i j => if q = p then .any else .ep q i j
  | .vp q cs => if q = p then .any else .vp q cs
  | c => c
/-- What p owns is dropped. -/
def St.drop (σ : St) (p : Pl) : St := (σ.map (C.kill p)).setP p .any

theorem map_setP_shape {K : Ctx} {w : World} {I : Nat → Prop} {g : Gh} {tm : Array Value} (h : Inv K w I g σ tm) (f : C → C) (p : Pl) (c : C) : ∀ t, ShapeOK (((σ.map f).setP p c).slots t) (tm.getD t undef) := by
  intro t
  unfold St.setP
  split
  · exact (h.shape t).map
  · dsimp only
    cases hb : Nat.beq t p.id with
    | true => exact ((h.shape t).map).setC
    | false => exact (h.shape t).map
theorem map_setP_box (f : C → C) (p : Pl) (c : C) : ∀ o, (((σ.map f).setP p c).boxes o).isSome = true → (σ.boxes o).isSome = true := by
  intro o ho
  unfold St.setP at ho
  split at ho
  · dsimp only at ho
    cases hb : Nat.beq o p.id <;> simp [hb, St.map] at ho <;> simpa using ho
  · simpa [St.map] using ho
theorem map_setP_n (f : C → C) (p : Pl) (c : C) : ((σ.map f).setP p c).n = σ.n := by
  unfold St.setP; split <;> rfl

theorem map_setP_isSome (f : C → C) (p : Pl) (c : C) (o : Nat) : (((σ.map f).setP p c).boxes o).isSome = (σ.boxes o).isSome := by
  unfold St.setP
  split
  · dsimp only
    cases hb : Nat.beq o p.id <;> simp [St.map]
  · simp [St.map]

theorem Inv.drop {K : Ctx} {w : World} {I : Nat → Prop} {g : Gh} {tm : Array Value} (h : Inv K w I g σ tm) {p : Pl} {e : Tag} {size k : Nat} {rs : List (List D)} (hp : σ.absAt p = some (.ow e size k rs)) :
    Inv K w I { g with L := fun q => if q = p then [] else g.L q } (σ.drop p) tm := by
  have hpm : (σ.map (C.kill p)).absAt p = some (.ow e size k rs) := by rw [absAt_map, hp]; rfl
  refine h.retell (map_setP_n ..) rfl (map_setP_shape h _ _ _) (map_setP_box _ _ _) ?_ (fun _ hb => hb) (fun _ hb => .inl hb) ?_ ?_ ?_ ?_
  · intro q c' hq
    by_cases e' : q = p
    · subst e'
      rw [St.drop, absAt_setP_same hpm] at hq
      obtain rfl := Option.some.inj hq
      exact ⟨_, hp, fun _ _ _ => trivial⟩
    · rw [St.drop, absAt_setP_other hpm e', absAt_map] at hq
      cases hc : σ.absAt q with
      | none => simp [hc] at hq
      | some c =>
        simp [hc] at hq
        subst hq
        refine ⟨c, rfl, fun u hr hcr => ?_⟩
        have hab : ∀ r, r ≠ p → ∀ e size k rs, σ.absAt r = some (.ow e size k rs) → ((σ.map (C.kill p)).setP p .any).absAt r = some (.ow e size k rs) := by
          intro r hr e size k rs hrr
          rw [absAt_setP_other hpm hr, absAt_map, hrr]; rfl
        cases c with
        | d x => exact hcr
        | ow e1 s1 k1 rs1 => simpa [C.kill, CR, e'] using hcr
        | vw r wh rs1 =>
          by_cases er : r = p
          · simp [C.kill, er, CR]
          · simp only [C.kill, er, if_false]
            refine ⟨by simpa [er] using hcr.1, fun hw => ?_⟩
            obtain ⟨h1, e1, s1, k1, h2⟩ := hcr.2 hw
            exact ⟨h1, e1, s1, k1, hab r er _ _ _ _ h2⟩
        | bp o c => exact ⟨hcr.1, by rw [St.drop, map_setP_isSome]; exact hcr.2⟩
        | ep r i j =>
          by_cases er : r = p
          · simp [C.kill, er, CR]
          · simp only [C.kill, er, if_false]
            obtain ⟨b, n, cap, e1, s1, k1, rs1, h1, h2, h3, h4⟩ := hcr
            exact ⟨b, n, cap, e1, s1, k1, rs1, h1, hab r er _ _ _ _ h2, h3, h4⟩
        | fc fn caps =>
          obtain ⟨vs, h1, h2⟩ := hcr
          exact ⟨vs, h1, h2.mono fun o _ v hv => ⟨hv.1, by rw [St.drop, map_setP_isSome]; exact hv.2⟩⟩
        | nl => exact hcr
        | vp r cs =>
          by_cases er : r = p
          · simp [C.kill, er, CR]
          · simp only [C.kill, er, if_false]
            simpa [CR, er] using hcr
        | any => trivial
  · intro q r b hb hb'
    simp only at hb hb'
    split at hb
    · cases hb
    · split at hb'
      · cases hb'
      · exact h.dis q r b hb hb'
  · intro q
    simp only
    split
    · exact List.nodup_nil
    · exact h.nod q
  · intro q b hb
    simp only at hb
    split at hb
    · cases hb
    · exact ⟨(h.own q b hb).1, q, hb⟩
  · intro q hq
    simp only
    split
    · rfl
    · rename_i hne
      refine h.nil q fun e1 s1 k1 rs1 hqq => hq e1 s1 k1 rs1 ?_
      rw [St.drop, absAt_setP_other hpm hne, absAt_map, hqq]; rfl

theorem Wk_drop {p : Pl} {e : Tag} {size k : Nat} {rs : List (List D)} (hp : σ.absAt p = some (.ow e size k rs)) : Wk σ (σ.drop p) := fun _ _ I _ _ h => ⟨I, _, h.drop hp⟩

/-- p told as q. -/
def C.ren (p q : Pl) : C → C
  | .vw r wh rs => .vw (if r = p then q else r) wh rs
  | .ep r i j => .ep (if r = p then q else r) i j
  | .vp r cs => .vp (if r = p then q else r) cs
  | c => c
/-- What p owns is from now on owned by q, which holds the same slice. -/
def St.give (σ : St) (p q : Pl) (e : Tag) (size k : Nat) (rs : List (List D)) : St := ((σ.map (C.ren p q)).setP q (.ow e size k rs)).setP p (.vw q true rs)

theorem setP_shape {tm : Array Value} (h : ∀ t, ShapeOK (σ.slots t) (tm.getD t undef)) (p : Pl) (c : C) : ∀ t, ShapeOK ((σ.setP p c).slots t) (tm.getD t undef) := by
  intro t
  unfold St.setP
  split
  · exact h t
  · dsimp only
    cases hb : Nat.beq t p.id with
    | true => exact (h t).setC
    | false => exact h t
theorem setP_isSome (p : Pl) (c : C) (o : Nat) : ((σ.setP p c).boxes o).isSome = (σ.boxes o).isSome := by
  unfold St.setP
  split
  · dsimp only
    cases hb : Nat.beq o p.id <;> simp
  · rfl
theorem setP_n (p : Pl) (c : C) : (σ.setP p c).n = σ.n := by unfold St.setP; split <;> rfl

theorem Wk_give {p q : Pl} {e : Tag} {size k : Nat} {rs : List (List D)} (hp : σ.absAt p = some (.ow e size k rs)) (hq : σ.absAt q = some (.vw p true rs)) : Wk σ (σ.give p q e size k rs) := by
  intro K w I g tm h
  have hpq : p ≠ q := fun e' => by rw [e', hq] at hp; cases hp
  have hqm : (σ.map (C.ren p q)).absAt q = some (.vw q true rs) := by rw [absAt_map, hq]; simp [C.ren]
  have hpm : (σ.map (C.ren p q)).absAt p = some (.ow e size k rs) := by rw [absAt_map, hp]; rfl
  have hpm' : ((σ.map (C.ren p q)).setP q (.ow e size k rs)).absAt p = some (.ow e size k rs) := by rw [absAt_setP_other hqm hpq]; exact hpm
  have hqs : (σ.give p q e size k rs).absAt q = some (.ow e size k rs) := by rw [St.give, absAt_setP_other hpm' (Ne.symm hpq), absAt_setP_same hqm]
  have hps : (σ.give p q e size k rs).absAt p = some (.vw q true rs) := by rw [St.give, absAt_setP_same hpm']
  have hos : ∀ r, r ≠ p → r ≠ q → (σ.give p q e size k rs).absAt r = (σ.absAt r).map (C.ren p q) := fun r h1 h2 => by rw [St.give, absAt_setP_other hpm' h1, absAt_setP_other hqm h2, absAt_map]
  -- q is not an owner
  have hLq : g.L q = [] := h.nil q fun e1 s1 k1 rs1 hh => by rw [hq] at hh; cases hh
  -- the two places hold one value
  have hreal : ∀ u, realAt w g tm q = some u → realAt w g tm p = some u := by
    intro u hu
    have hcr : CR w I g σ tm q (.vw p true rs) u := by
      unfold realAt at hu
      unfold St.absAt at hq
      split at hu
      · rename_i hb
        rw [if_pos hb] at hq
        cases hbx : σ.boxes q.id with
        | none => simp [hbx] at hq
        | some cs =>
          simp [hbx] at hq
          obtain ⟨u', h1, _, _, _, h5⟩ := h.boxc q.id cs hbx q.c _ hq
          rw [h1] at hu
          obtain rfl := Option.some.inj hu
          have : q = ⟨true, q.id, q.c⟩ := by cases q; simp_all
          rw [this]; exact h5
      · rename_i hb
        rw [if_neg hb] at hq
        obtain ⟨u', h1, h2⟩ := h.slot q.id q.c _ hq
        rw [h1] at hu
        obtain rfl := Option.some.inj hu
        have : q = ⟨false, q.id, q.c⟩ := by cases q; simp_all
        rw [this]; exact h2
    exact (hcr.2 rfl).1
  have hval : ∃ u, realAt w g tm q = some u := by
    unfold realAt
    unfold St.absAt at hq
    split
    · rename_i hb
      rw [if_pos hb] at hq
      cases hbx : σ.boxes q.id with
      | none => simp [hbx] at hq
      | some cs =>
        simp [hbx] at hq
        obtain ⟨u', h1, _⟩ := h.boxc q.id cs hbx q.c _ hq
        exact ⟨u', h1⟩
    · rename_i hb
      rw [if_neg hb] at hq
      obtain ⟨u', h1, _⟩ := h.slot q.id q.c _ hq
      exact ⟨u', h1⟩
  obtain ⟨uq, huq⟩ := hval
  have hup := hreal uq huq
  -- what p's cell says
  have hcrp : CR w I g σ tm p (.ow e size k rs) uq := by
    unfold realAt at hup
    unfold St.absAt at hp
    split at hup
    · rename_i hb
      rw [if_pos hb] at hp
      cases hbx : σ.boxes p.id with
      | none => simp [hbx] at hp
      | some cs =>
        simp [hbx] at hp
        obtain ⟨u', h1, _, _, _, h5⟩ := h.boxc p.id cs hbx p.c _ hp
        rw [h1] at hup
        obtain rfl := Option.some.inj hup
        have : p = ⟨true, p.id, p.c⟩ := by cases p; simp_all
        rw [this]; exact h5
    · rename_i hb
      rw [if_neg hb] at hp
      obtain ⟨u', h1, h2⟩ := h.slot p.id p.c _ hp
      rw [h1] at hup
      obtain rfl := Option.some.inj hup
      have : p = ⟨false, p.id, p.c⟩ := by cases p; simp_all
      rw [this]; exact h2
  let g' : Gh := { g with L := fun r => if r = q then g.L p else if r = p then [] else g.L r }
  have hL : ∀ r, g'.L (if r = p then q else r) = g.L r ∨ r = q := by
    intro r
    by_cases er : r = p
    · left; simp [g', er]
    · by_cases er2 : r = q
      · exact .inr er2
      · left; simp [g', er, er2]
  refine ⟨I, g', h.retell (by simp [St.give, setP_n, St.map]) rfl ?_ ?_ ?_ (fun _ hb => hb) (fun _ hb => .inl hb) ?_ ?_ ?_ ?_⟩
  · exact setP_shape (setP_shape (fun t => (h.shape t).map) _ _) _ _
  · intro o ho
    rw [St.give, setP_isSome, setP_isSome] at ho
    simpa [St.map] using ho
  · intro r c' hr
    by_cases er : r = p
    · subst er
      rw [hps] at hr
      obtain rfl := Option.some.inj hr
      refine ⟨_, hp, fun u hu hcr => ⟨?_, fun _ => ⟨?_, e, size, k, hqs⟩⟩⟩
      · exact (ROT.rd hcr.1).sub fun b hb => hb.imp id fun hb => by simp [g', hb]
      · show realAt w g tm q = some u
        rw [hup] at hu
        obtain rfl := Option.some.inj hu
        exact huq
    · by_cases er2 : r = q
      · subst er2
        rw [hqs] at hr
        obtain rfl := Option.some.inj hr
        refine ⟨_, hq, fun u hu _ => ?_⟩
        rw [huq] at hu
        obtain rfl := Option.some.inj hu
        have : g'.L r = g.L p := by simp [g']
        show ROT (RO w I k) w I e.ty size rs uq (g'.L r) ∧ _
        rw [this]
        exact hcrp
      · rw [hos r er er2] at hr
        cases hc : σ.absAt r with
        | none => simp [hc] at hr
        | some c =>
          simp [hc] at hr
          subst hr
          refine ⟨c, rfl, fun u hu hcr => ?_⟩
          have hsub : ∀ r0 b, I b ∨ b ∈ g.L r0 → I b ∨ b ∈ g'.L (if r0 = p then q else r0) := by
            intro r0 b hb
            rcases hb with hb | hb
            · exact .inl hb
            · rcases hL r0 with h1 | h1
              · exact .inr (by rw [h1]; exact hb)
              · rw [h1, hLq] at hb; cases hb
          have hab : ∀ r0 e1 s1 k1 rs1, σ.absAt r0 = some (.ow e1 s1 k1 rs1) → (σ.give p q e size k rs).absAt (if r0 = p then q else r0) = some (.ow e1 s1 k1 rs1) := by
            intro r0 e1 s1 k1 rs1 h0
            by_cases e0 : r0 = p
            · subst e0; rw [if_pos rfl, hqs]; rw [hp] at h0; exact h0
            · rw [if_neg e0]
              by_cases e2 : r0 = q
              · subst e2; rw [hq] at h0; cases h0
              · rw [hos r0 e0 e2, h0]; rfl
          have hre : ∀ r0 u0 e1 s1 k1 rs1, σ.absAt r0 = some (.ow e1 s1 k1 rs1) → realAt w g tm r0 = some u0 → realAt w g tm (if r0 = p then q else r0) = some u0 := by
            intro r0 u0 e1 s1 k1 rs1 _ h1
            by_cases e0 : r0 = p
            · subst e0; rw [if_pos rfl]; rw [hup] at h1; obtain rfl := Option.some.inj h1; exact huq
            · rw [if_neg e0]; exact h1
          cases c with
          | d x => exact hcr
          | ow e1 s1 k1 rs1 =>
            show ROT (RO w I k1) w I e1.ty s1 rs1 u (g'.L r) ∧ _
            have : g'.L r = g.L r := by simp [g', er, er2]
            rw [this]; exact hcr
          | vw r0 wh rs1 =>
            refine ⟨hcr.1.sub (hsub r0), fun hw => ?_⟩
            obtain ⟨h1, e1, s1, k1, h2⟩ := hcr.2 hw
            exact ⟨hre r0 u e1 s1 k1 rs1 h2 h1, e1, s1, k1, hab r0 _ _ _ _ h2⟩
          | bp o c => exact ⟨hcr.1, by rw [St.give, setP_isSome, setP_isSome]; simpa [St.map] using hcr.2⟩
          | ep r0 i j =>
            obtain ⟨b, n, cap, e1, s1, k1, rs1, h1, h2, h3, h4⟩ := hcr
            exact ⟨b, n, cap, e1, s1, k1, rs1, hre r0 _ e1 s1 k1 rs1 h2 h1, hab r0 _ _ _ _ h2, h3, h4⟩
          | fc fn caps =>
            obtain ⟨vs, h1, h2⟩ := hcr
            exact ⟨vs, h1, h2.mono fun o _ v hv => ⟨hv.1, by rw [St.give, setP_isSome, setP_isSome]; simpa [St.map] using hv.2⟩⟩
          | nl => exact hcr
          | vp r0 cs => exact Rd.sub hcr (hsub r0)
          | any => trivial
  · intro r s b hb hb'
    simp only [g'] at hb hb'
    split at hb <;> split at hb'
    · simp_all
    · rename_i h1 h2
      split at hb'
      · cases hb'
      · rename_i h3
        exact absurd (h.dis p s b hb hb').symm h3
    · rename_i h1 h2
      split at hb
      · cases hb
      · rename_i h3
        exact absurd (h.dis r p b hb hb') h3
    · split at hb
      · cases hb
      · split at hb'
        · cases hb'
        · exact h.dis r s b hb hb'
  · intro r
    simp only [g']
    split
    · exact h.nod p
    · split
      · exact List.nodup_nil
      · exact h.nod r
  · intro r b hb
    simp only [g'] at hb
    split at hb
    · exact ⟨(h.own p b hb).1, p, hb⟩
    · split at hb
      · cases hb
      · exact ⟨(h.own r b hb).1, r, hb⟩
  · intro r hr
    simp only [g']
    split
    · rename_i e1; subst e1; exact absurd hqs (hr e size k rs)
    · split
      · rfl
      · rename_i h1 h2
        refine h.nil r fun e1 s1 k1 rs1 hh => hr e1 s1 k1 rs1 ?_
        rw [hos r h2 h1, hh]; rfl

end Go.AX
