/- A part of the proof of the statement in the row text. -/
import Derived.Test.YtkpohcfohnmejaaGreatDoorLxCopy
/- Calls that write into several owned slices, owned down to the ground: what is handed over, and told anew. -/
set_option linter.unusedVariables false
set_option linter.unusedSimpArgs false
namespace Go.LX

variable {P : Program} {σ : St}

def memH : List Nat → Nat → Bool
  | [], _ => false
  | a :: r, x => bif Nat.beq x a then true else memH r x
theorem memH_iff {x : Nat} : ∀ {qs : List Nat}, memH qs x = true ↔ x ∈ qs
  | [] => by simp [memH]
  | a :: r => by
    by_cases h : x = a
    · subst h; simp [memH]
    · simp [memH, beq_ne h, memH_iff (qs := r), h]
/-- No more views of the objects qs. -/
def scC (qs : List Nat) : C → C
  | .rf o r => match r with
    | .vw _ _ | .vp _ _ _ | .ns _ _ => bif memH qs o then .any else .rf o r
    | _ => .rf o r
  | c => c
def scS (qs : List Nat) : SV → SV
  | .one c => .one (scC qs c)
  | .ag cs => .ag (cs.map (scC qs))
  | .tu xs => .tu (xs.map fun x => (x.1, x.2.map (scC qs)))
  | .un => .un
def scB (qs : List Nat) : Ob → Ob
  | .cells cs => .cells (cs.map (scC qs))
  | q => q
def hLook : List (Nat × S0) → Nat → Option S0
  | [], _ => none
  | x :: r, o => bif Nat.beq o x.1 then some x.2 else hLook r o
def St.hand (σ : St) (hs : List (Nat × S0)) : St :=
  ⟨σ.n, fun t => scS (hs.map (·.1)) (σ.slots t), fun o => match hLook hs o with
    | some s' => some (obOf s')
    | none => match σ.objs o with
      | some q => some (scB (hs.map (·.1)) q)
      | none => none⟩
theorem hLook_mem : ∀ {hs : List (Nat × S0)} {o : Nat} {s : S0}, hLook hs o = some s → (o, s) ∈ hs
  | [], _, _, h => by cases h
  | x :: r, o, s, h => by
    by_cases e : o = x.1
    · simp only [hLook] at h; rw [e, Nat.beq_refl, cond_true] at h; cases h; rw [e]; simp
    · simp only [hLook, beq_ne e, cond_false] at h; simp [hLook_mem h]
theorem hLook_none : ∀ {hs : List (Nat × S0)} {o : Nat}, hLook hs o = none → ∀ x ∈ hs, x.1 ≠ o
  | [], _, _, x, hx => by simp at hx
  | y :: r, o, h, x, hx => by
    by_cases e : o = y.1
    · simp only [hLook] at h; rw [e, Nat.beq_refl, cond_true] at h; cases h
    · simp only [hLook, beq_ne e, cond_false] at h
      rcases List.mem_cons.1 hx with rfl | hx
      · exact Ne.symm e
      · exact hLook_none h x hx
theorem scS_cells {qs : List Nat} {s : SV} : (scS qs s).cells = s.cells.map (scC qs) := by
  cases s with
  | one c => rfl
  | ag cs => rfl
  | un => rfl
  | tu xs =>
    simp only [scS, SV.cells]
    induction xs with
    | nil => rfl
    | cons x xs ih => simp [ih]
theorem scS_shape {qs : List Nat} {s : SV} {u : Value} (h : ShapeOK s u) : ShapeOK (scS qs s) u := by
  cases s with
  | one c => exact h
  | ag cs => show AggOK (cs.map (scC qs)).length u; rw [List.length_map]; exact h
  | un => trivial
  | tu xs =>
    obtain ⟨vs, e, h⟩ := h
    refine ⟨vs, e, ?_⟩
    clear e
    induction xs generalizing vs with
    | nil => exact h
    | cons x xs ih =>
      cases vs with
      | nil => exact h.elim
      | cons v vs => exact ⟨by have := h.1; simpa using this, ih vs h.2⟩

section
variable {K : Ctx} {w w' : World} {I I' : Nat → Prop} {g : Gh} {tm : Array Value}
/-- What may be told of an object that was rows of t. -/
def handOK (ob : Nat → Option Ob) (x : Nat × S0) : Prop := ∃ (e : TypeId) (t : Ty) (dp : Bool) (xs : List t.T), ob x.1 = some (.rows e t dp xs) ∧ match x.2 with
  | .own _ t' _ _ => t'.w = t.w
  | .any => True
  | .d _ _ => False
theorem Inv.handed [Glob] (hi : Inv K w I g σ tm) {hs : List (Nat × S0)} (hnd : (hs.map (·.1)).Nodup) (hok : ∀ x ∈ hs, handOK σ.objs x) (hg : Grow w w' fun b => ∃ x ∈ hs, b ∈ g.L x.1) (hI1 : ∀ b, I b → I' b) (hI2 : ∀ b, I' b → b < w'.heap.size ∧ (b < w.heap.size → I b ∨ ∃ x ∈ hs, b ∈ g.L x.1))
    (f : Nat → List Nat) (hf : ∀ x ∈ hs, SR w' I' x.2 (g.base x.1) (f x.1)) (hfn : ∀ o, (f o).Nodup) (hfd : ∀ o o' b, b ∈ f o → b ∈ f o' → o = o') (hfo : ∀ x ∈ hs, ∀ b ∈ f x.1, ¬ I' b ∧ b < w'.heap.size ∧ (b < w.heap.size → (∃ y ∈ hs, b ∈ g.L y.1) ∨ Free K I g b)) :
    Inv K w' I' ⟨g.addr, g.base, fun o => bif memH (hs.map (·.1)) o then f o else g.L o⟩ (σ.hand hs) tm := by
  have hmem : ∀ {o : Nat}, memH (hs.map (·.1)) o = true ↔ ∃ x ∈ hs, x.1 = o := by
    intro o; rw [memH_iff, List.mem_map]
  have hmine : ∀ x ∈ hs, ∀ b ∈ g.L x.1, K.mine b := fun x hx b hb => by
    obtain ⟨e, t, dp, xs, hq, _⟩ := hok x hx
    exact hi.own_mine hq (fun _ h => by cases h) hb
  have hI : ∀ b, I b → I' b ∧ ∀ fo, w'.cell? ⟨b, fo, none⟩ = w.cell? ⟨b, fo, none⟩ := fun b hb => ⟨hI1 b hb, fun fo => cell_block (hg.block b (hi.immX b hb).1 fun ⟨x, _, hx⟩ => (hi.own x.1 b hx).1 hb) fo⟩
  have hLo : ∀ o, memH (hs.map (·.1)) o = false → ∀ b ∈ g.L o, w'.heap[b]? = w.heap[b]? := fun o ho b hb => hg.block b (hi.ob_lt hb) fun ⟨x, hx, hb'⟩ => by
    have := hi.dis o x.1 b hb hb'
    have h2 := hmem.2 ⟨x, hx, this.symm⟩
    rw [ho] at h2; cases h2
  have hlook : ∀ {o : Nat} {s : S0}, hLook hs o = some s → (o, s) ∈ hs ∧ memH (hs.map (·.1)) o = true := fun h => ⟨hLook_mem h, hmem.2 ⟨_, hLook_mem h, rfl⟩⟩
  have hlookN : ∀ {o : Nat}, hLook hs o = none → memH (hs.map (·.1)) o = false := fun {o} h => by
    cases hm : memH (hs.map (·.1)) o with
    | false => rfl
    | true => obtain ⟨x, hx, e⟩ := hmem.1 hm; exact absurd e (hLook_none h x hx)
  -- what a cell says, told anew
  have hsee : ∀ {o : Nat} {r : Rf} {u : Value}, seeO w I (g.addr o) (g.base o) (g.L o) (σ.objs o) r u → CR w' I' ⟨g.addr, g.base, fun o => bif memH (hs.map (·.1)) o then f o else g.L o⟩ (σ.hand hs).objs (scC (hs.map (·.1)) (.rf o r)) u := by
    intro o r u h
    cases hl : hLook hs o with
    | some s' =>
      obtain ⟨hm, hmb⟩ := hlook hl
      have hob : (σ.hand hs).objs o = some (obOf s') := by show (match hLook hs o with | some s' => _ | none => _) = _; rw [hl]
      obtain ⟨e, t, dp, xs, hq, hc⟩ := hok _ hm
      have hq : σ.objs o = some (.rows e t dp xs) := hq
      have hsr := hf _ hm
      rw [hq] at h
      have key : (∀ t x, r ≠ .vw t x) → (∀ t x j, r ≠ .vp t x j) → (∀ i j, r ≠ .ns i j) → seeO w' I' (g.addr o) (g.base o) (bif memH (hs.map (·.1)) o then f o else g.L o) ((σ.hand hs).objs o) r u := by
        intro n1 n2 n3
        rw [hob]
        cases s' with
        | d => exact hc.elim
        | any =>
          show see w' I' (g.addr o) (g.base o) (bif memH (hs.map (·.1)) o then f o else g.L o) .dead r u
          exact see_dead
        | own e' t' dp' xs' =>
          have hc : t'.w = t.w := hc
          have hsr : OA w' I' dp' e' t' xs' (g.base o) (f o) := hsr
          have hlen : xs'.length = xs.length := by
            obtain ⟨A, c, e1, _⟩ := hsr.rt
            obtain ⟨A2, c2, e2, _⟩ := (hi.rows hq).rt
            simp only [List.cons.injEq, and_true] at e1 e2
            rw [e1] at e2
            simp only [Value.slice.injEq] at e2
            exact e2.2.1
          have h : see w I (g.addr o) (g.base o) (g.L o) (.rows e t dp xs) r u := h
          show see w' I' (g.addr o) (g.base o) _ (.rows e' t' dp' xs') r u
          cases r with
          | ar => exact h
          | sb a b => simp only [see] at h ⊢; rw [hlen, hc]; exact h
          | vw t x => exact absurd rfl (n1 t x)
          | pb c => trivial
          | as a b c => trivial
          | pe i j => simp only [see] at h ⊢; rw [hlen, hc]; exact h
          | vp t x j => exact absurd rfl (n2 t x j)
          | ns i j => exact absurd rfl (n3 i j)
      cases r with
      | vw t x => simp only [scC, hmb, cond_true]; trivial
      | vp t x j => simp only [scC, hmb, cond_true]; trivial
      | ns i j => simp only [scC, hmb, cond_true]; trivial
      | ar => exact key (by simp) (by simp) (by simp)
      | sb => exact key (by simp) (by simp) (by simp)
      | pb => exact key (by simp) (by simp) (by simp)
      | as => exact key (by simp) (by simp) (by simp)
      | pe => exact key (by simp) (by simp) (by simp)
    | none =>
      have hmb := hlookN hl
      have hcc : scC (hs.map (·.1)) (.rf o r) = .rf o r := by cases r <;> simp [scC, hmb]
      rw [hcc]
      show seeO w' I' (g.addr o) (g.base o) (bif memH (hs.map (·.1)) o then f o else g.L o) ((σ.hand hs).objs o) r u
      rw [hmb]
      have hk := hi.keepX (w' := w') (I' := I') (g' := g) (ob' := σ.objs) (x := o) hI (hLo o hmb) rfl rfl rfl rfl r u h
      cases hq : σ.objs o with
      | none => rw [hq] at h; exact h.elim
      | some q =>
        have hob : (σ.hand hs).objs o = some (scB (hs.map (·.1)) q) := by show (match hLook hs o with | some s' => _ | none => _) = _; rw [hl, hq]
        rw [hob]
        rw [hq] at hk
        cases q with
        | cells cs => exact see_cells (by simp) hk
        | _ => exact hk
  have hcr : ∀ {c : C} {u : Value}, CR w I g σ.objs c u → CR w' I' ⟨g.addr, g.base, fun o => bif memH (hs.map (·.1)) o then f o else g.L o⟩ (σ.hand hs).objs (scC (hs.map (·.1)) c) u := by
    intro c u h
    cases c with
    | d t x => exact RT.kept hI1 (fun b hb => (hI b hb).2) h
    | rf o r => exact hsee h
    | pd t x j => exact PD.kept h hI1 (fun b hb => (hI b hb).2)
    | pa t xs => exact PA.kept h hI1 (fun b hb => (hI b hb).2)
    | fc fn caps => obtain ⟨vs, e, ha⟩ := h; exact ⟨vs, e, ha.mono fun o _ v hv => hsee (r := .pb 0) hv⟩
    | sem φ => exact ⟨h.1, h.1 _ _ _ _ _ hI1 (fun b hb => (hI b hb).2) h.2⟩
    | nl => exact h
    | np => exact h
    | ni => exact h
    | z => exact h
    | val v => exact h
    | any => trivial
  exact {
    fr := hi.fr.step hg fun b ⟨x, hx, hb⟩ => hmine x hx b hb
    size := hi.size
    glob := hi.glob.kept hI1 fun b hb => (hI b hb).2
    imm0 := fun b hb => hI1 b (hi.imm0 b hb)
    immX := fun b hb => by
      obtain ⟨q1, q2⟩ := hI2 b hb
      refine ⟨q1, fun hlt => ?_⟩
      by_cases h : b < w.heap.size
      · rcases q2 h with h | ⟨x, hx, h⟩
        · exact (hi.immX b h).2 hlt
        · exact .inr (hmine x hx b h hlt)
      · have := hi.fr.size; omega
    dis := fun o o' b h1 h2 => by
      have side : ∀ {o o' : Nat}, memH (hs.map (·.1)) o = true → memH (hs.map (·.1)) o' = false → b ∈ f o → b ∈ g.L o' → False := by
        intro o o' m1 m2 k1 k2
        obtain ⟨x, hx, rfl⟩ := hmem.1 m1
        obtain ⟨_, _, q⟩ := hfo x hx b k1
        rcases q (hi.ob_lt k2) with ⟨y, hy, hb⟩ | hfr
        · have := hi.dis o' y.1 b k2 hb
          have h3 := hmem.2 ⟨y, hy, this.symm⟩
          rw [m2] at h3; cases h3
        · exact hfr.l o' k2
      simp only at h1 h2
      cases m1 : memH (hs.map (·.1)) o <;> cases m2 : memH (hs.map (·.1)) o' <;> rw [m1] at h1 <;> rw [m2] at h2
      · exact hi.dis o o' b h1 h2
      · exact (side m2 m1 h2 h1).elim
      · exact (side m1 m2 h1 h2).elim
      · exact hfd o o' b h1 h2
    nod := fun o => by
      show (bif memH (hs.map (·.1)) o then f o else g.L o).Nodup
      cases memH (hs.map (·.1)) o
      · exact hi.nod o
      · exact hfn o
    own := fun o b hb => by
      have hb : b ∈ (bif memH (hs.map (·.1)) o then f o else g.L o) := hb
      cases m : memH (hs.map (·.1)) o with
      | true =>
        rw [m] at hb
        obtain ⟨x, hx, rfl⟩ := hmem.1 m
        obtain ⟨q1, q2, q3⟩ := hfo x hx b hb
        refine ⟨q1, q2, .inl fun hlt => ?_⟩
        rcases q3 (Nat.lt_of_lt_of_le hlt hi.fr.size) with ⟨y, hy, hby⟩ | hfr
        · exact hmine y hy b hby hlt
        · exact hfr.m hlt
      | false =>
        rw [m] at hb
        obtain ⟨q1, q2, q3⟩ := hi.own o b hb
        refine ⟨fun h => ?_, Nat.lt_of_lt_of_le q2 hg.size, q3⟩
        rcases (hI2 b h).2 q2 with h | ⟨x, hx, h⟩
        · exact q1 h
        · have := hi.dis o x.1 b hb h
          have h3 := hmem.2 ⟨x, hx, this.symm⟩
          rw [m] at h3; cases h3
    ext := fun o a ho => by
      obtain ⟨q1, q2⟩ := hi.ext o a ho
      refine ⟨q1, fun q hq => ?_⟩
      cases hl : hLook hs o with
      | some s' =>
        obtain ⟨e, t, dp, xs, hq', _⟩ := hok _ (hlook hl).1
        exact absurd ho (hi.noE hq' (fun _ h => by cases h) a)
      | none =>
        have hob : (σ.hand hs).objs o = (match σ.objs o with | some q => some (scB (hs.map (·.1)) q) | none => none) := by show (match hLook hs o with | some s' => _ | none => _) = _; rw [hl]
        rw [hob] at hq
        cases hq' : σ.objs o with
        | none => rw [hq'] at hq; cases hq
        | some p =>
          rw [hq'] at hq
          cases hq
          obtain ⟨r1, r2, r3, cs, rfl⟩ := q2 p hq'
          exact ⟨r1, r2, r3, _, rfl⟩
    exB := fun o v ho => by
      obtain ⟨q1, q2⟩ := hi.exB o v ho
      refine ⟨q1, fun q hq => ?_⟩
      cases hl : hLook hs o with
      | some s' =>
        obtain ⟨e, t, dp, xs, hq', _⟩ := hok _ (hlook hl).1
        exact q2 _ hq'
      | none =>
        have hob : (σ.hand hs).objs o = (match σ.objs o with | some q => some (scB (hs.map (·.1)) q) | none => none) := by show (match hLook hs o with | some s' => _ | none => _) = _; rw [hl]
        rw [hob] at hq
        cases hq' : σ.objs o with
        | none => rw [hq'] at hq; cases hq
        | some p => exact q2 p hq'
    obj := fun o => by
      have hob := hi.obj o
      unfold ObR at hob ⊢
      cases hl : hLook hs o with
      | some s' =>
        obtain ⟨hm, hmb⟩ := hlook hl
        have he : (σ.hand hs).objs o = some (obOf s') := by show (match hLook hs o with | some s' => _ | none => _) = _; rw [hl]
        obtain ⟨e, t, dp, xs, hq, hc⟩ := hok _ hm
        have hsr := hf _ hm
        rw [he]
        simp only [hmb, cond_true]
        cases s' with
        | d => exact hc.elim
        | any => exact hsr.1
        | own e' t' dp' xs' => exact hsr
      | none =>
        have hmb := hlookN hl
        have he : (σ.hand hs).objs o = (match σ.objs o with | some q => some (scB (hs.map (·.1)) q) | none => none) := by show (match hLook hs o with | some s' => _ | none => _) = _; rw [hl]
        rw [he]
        simp only [hmb, cond_false]
        cases hq : σ.objs o with
        | none => rw [hq] at hob; exact hob
        | some q =>
          rw [hq] at hob
          cases q with
          | dead => exact hob
          | cells cs =>
            obtain ⟨b1, b2⟩ := hob
            refine ⟨b1, fun j c hj => ?_⟩
            simp only [List.getElem?_map, Option.map_eq_some_iff] at hj
            obtain ⟨c0, hc0, rfl⟩ := hj
            obtain ⟨u, u1, u2, u3, u4, u5⟩ := b2 j c0 hc0
            have hblk := hLo o hmb (g.addr o).1 (by rw [b1]; simp)
            exact ⟨u, by rw [cell_block hblk]; exact u1, by rw [frozen_block hblk]; exact u2, u3, u4, hcr u5⟩
          | rows e t dp xs => exact OA.kept hob hI1 (fun b hb => (hI b hb).2) (hLo o hmb)
          | fz t dp xs => exact ⟨hob.1, RT.kept hI1 (fun b hb => (hI b hb).2) hob.2⟩
    shape := fun t => scS_shape (hi.shape t)
    slot := fun t i c hc => by
      have hc : ((scS (hs.map (·.1)) (σ.slots t)).cells)[i]? = some c := hc
      rw [scS_cells] at hc
      simp only [List.getElem?_map, Option.map_eq_some_iff] at hc
      obtain ⟨c0, hc0, rfl⟩ := hc
      obtain ⟨u, u1, u2⟩ := hi.slot t i c0 hc0
      exact ⟨u, u1, hcr u2⟩ }
end

/-! ### Several slices handed over -/
def hC : S0 → C → S0 → List (Nat × S0)
  | .own .., .rf o .ar, s' => [(o, s')]
  | _, _, _ => []
def hCs : List S0 → List C → List S0 → List (Nat × S0)
  | s :: ss, c :: cs, s' :: ss' => hC s c s' ++ hCs ss cs ss'
  | _, _, _ => []
def hA : SA → SV → SA → List (Nat × S0)
  | .c s, .one c, .c s' => hC s c s'
  | .ag ss, .ag cs, .ag ss' => hCs ss cs ss'
  | _, _, _ => []
def hAs : List SA → List SV → List SA → List (Nat × S0)
  | a :: as, v :: vs, a' :: as' => hA a v a' ++ hAs as vs as'
  | _, _, _ => []
/-- May a handed cell be told so? -/
def pOc : S0 → C → S0 → Bool
  | .own _ t _ _, .rf _ .ar, .own _ t' _ _ => Nat.beq t'.w t.w
  | .own .., .rf _ .ar, .any => true
  | .own .., .rf _ .ar, .d _ _ => false
  | .own .., .nl, .own .. => true
  | _, _, s' => s'.noOwn
def pOcs : List S0 → List C → List S0 → Bool
  | [], [], [] => true
  | s :: ss, c :: cs, s' :: ss' => pOc s c s' && pOcs ss cs ss'
  | _, _, _ => false
def pOa : SA → SV → SA → Bool
  | .c s, .one c, .c s' => pOc s c s'
  | .ag ss, .ag cs, .ag ss' => pOcs ss cs ss'
  | _, _, _ => false
def pOas : List SA → List SV → List SA → Bool
  | [], [], [] => true
  | a :: as, v :: vs, a' :: as' => pOa a v a' && pOas as vs as'
  | _, _, _ => false
def mA (ob : Nat → Option Ob) : SA → SV → Prop
  | .c s, .one c => msP ob s c
  | .ag ss, .ag cs => msPs ob ss cs
  | _, _ => False
def mAs (ob : Nat → Option Ob) : List SA → List SV → Prop
  | [], [] => True
  | a :: as, v :: vs => mA ob a v ∧ mAs ob as vs
  | _, _ => False
def mO : SA → SV → List Nat
  | .c s, .one c => msO s c
  | .ag ss, .ag cs => msOs ss cs
  | _, _ => []
def mOs : List SA → List SV → List Nat
  | a :: as, v :: vs => mO a v ++ mOs as vs
  | _, _ => []
def Spl {α : Type} (R : α → List Nat → Prop) : List α → List Nat → Prop
  | [], L => L = []
  | x :: r, L => ∃ L1 L2, L = L1 ++ L2 ∧ R x L1 ∧ Spl R r L2
theorem Spl.app {α : Type} {R : α → List Nat → Prop} : ∀ {xs ys : List α} {L M : List Nat}, Spl R xs L → Spl R ys M → Spl R (xs ++ ys) (L ++ M)
  | [], _, _, _, h, h' => by obtain rfl := h; exact h'
  | x :: xs, _, _, _, h, h' => by
    obtain ⟨L1, L2, rfl, h1, h2⟩ := h
    exact ⟨L1, L2 ++ _, List.append_assoc .., h1, h2.app h'⟩
theorem Spl.assign {R : Nat × S0 → List Nat → Prop} : ∀ {hs : List (Nat × S0)} {L : List Nat}, Spl R hs L → (hs.map (·.1)).Nodup → L.Nodup →
    ∃ f : Nat → List Nat, (∀ x ∈ hs, R x (f x.1)) ∧ (∀ o, (f o).Nodup) ∧ (∀ o o' b, b ∈ f o → b ∈ f o' → o = o') ∧ (∀ o b, b ∈ f o → b ∈ L)
  | [], L, h, _, _ => ⟨fun _ => [], fun x hx => by simp at hx, fun _ => List.nodup_nil, fun o o' b hb => by simp at hb, fun o b hb => by simp at hb⟩
  | x :: hs, L, h, hn, hL => by
    obtain ⟨L1, L2, rfl, h1, h2⟩ := h
    simp only [List.map_cons, List.nodup_cons] at hn
    obtain ⟨n1, n2, n3⟩ := List.nodup_append.1 hL
    obtain ⟨f, f1, f2, f3, f4⟩ := Spl.assign h2 hn.2 n2
    have hx : ∀ y ∈ hs, y.1 ≠ x.1 := fun y hy e => hn.1 (List.mem_map.2 ⟨y, hy, e⟩)
    refine ⟨fun o => if o = x.1 then L1 else f o, fun y hy => ?_, fun o => ?_, fun o o' b hb hb' => ?_, fun o b hb => ?_⟩
    · rcases List.mem_cons.1 hy with rfl | hy
      · simp only [if_true]; exact h1
      · show R y (if y.1 = x.1 then L1 else f y.1)
        rw [if_neg (hx y hy)]; exact f1 y hy
    · by_cases e : o = x.1
      · simp only [e, if_true]; exact n1
      · simp only [e, if_false]; exact f2 o
    · by_cases e : o = x.1 <;> by_cases e' : o' = x.1
      · rw [e, e']
      · simp only [e, if_true] at hb; simp only [e', if_false] at hb'
        exact absurd rfl (n3 b hb b (f4 o' b hb'))
      · simp only [e, if_false] at hb; simp only [e', if_true] at hb'
        exact absurd rfl (n3 b hb' b (f4 o b hb))
      · simp only [e, if_false] at hb; simp only [e', if_false] at hb'
        exact f3 o o' b hb hb'
    · by_cases e : o = x.1
      · simp only [e, if_true] at hb; simp [hb]
      · simp only [e, if_false] at hb; simp [f4 o b hb]

section
variable {K : Ctx} {w w' : World} {I I' : Nat → Prop} {g : Gh} {tm : Array Value}
theorem mA_ok [Glob] (hi : Inv K w I g σ tm) {a : SA} {x : Operand} (h : mA σ.objs a (σ.ev x)) : AR w I a (Act.eval ⟨tm, []⟩ x) ((mO a (σ.ev x)).flatMap g.L) [] := by
  obtain ⟨h1, h2⟩ := hi.ev x rfl
  generalize σ.ev x = v at h h1 h2
  generalize Act.eval ⟨tm, []⟩ x = u at h1 h2
  cases a with
  | c s =>
    cases v with
    | one c =>
      have h1 : u.oneCell' = true := h1
      obtain ⟨u', q1, q2⟩ := h2 0 c rfl
      rw [val_one h1] at q1
      simp at q1
      subst q1
      exact ⟨rfl, SR.of hi h h1 q2⟩
    | _ => exact h.elim
  | ag ss =>
    cases v with
    | ag cs =>
      obtain ⟨us, rfl, e1, e2⟩ := h1
      exact ⟨rfl, us, rfl, SRs.of hi h e1 fun j c hj => by
        obtain ⟨u, q1, q2⟩ := h2 j c hj
        have q1 : us[j]? = some u := by simpa [valCells, Value.cells] using q1
        exact ⟨u, q1, e2 u (List.mem_of_getElem? q1), q2⟩⟩
    | _ => exact h.elim
  | bx ss => cases v <;> exact h.elim
  | sem φ => cases v <;> exact h.elim
  | pd t x => cases v <;> exact h.elim
  | nl => cases v <;> exact h.elim
theorem mAs_ok [Glob] (hi : Inv K w I g σ tm) : ∀ {as : List SA} {xs : List Operand}, mAs σ.objs as (xs.map σ.ev) → ARs w I as (xs.map (Act.eval ⟨tm, []⟩)) ((mOs as (xs.map σ.ev)).flatMap g.L) []
  | [], [], _ => ⟨rfl, rfl⟩
  | a :: as, x :: xs, h => ⟨_, _, [], [], by simp only [List.map_cons, mOs, List.flatMap_append], rfl, mA_ok hi h.1, mAs_ok hi h.2⟩
  | [], _ :: _, h => h.elim
  | _ :: _, [], h => h.elim
theorem gotC {s : S0} {c : C} {s' : S0} {u : Value} {L : List Nat} (hm : msP σ.objs s c) (hc : CR w I g σ.objs c u) (hp : pOc s c s' = true) (h : SR w' I' s' u L) : Spl (fun x L => SR w' I' x.2 (g.base x.1) L) (hC s c s') L := by
  have nn : ∀ {s' : S0}, s'.noOwn = true → SR w' I' s' u L → L = [] := fun hn h => by
    rename_i s'
    cases s' with
    | own => cases hn
    | d t x => exact h.1
    | any => exact h.1
  unfold pOc at hp
  split at hp
  · rename_i o _ _ _ _
    have hc : seeO w I (g.addr o) (g.base o) (g.L o) (σ.objs o) .ar u := hc
    rw [show σ.objs o = _ from hm] at hc
    have hu : u = g.base o := hc
    subst hu
    exact ⟨L, [], by simp, h, rfl⟩
  · rename_i o
    have hc : seeO w I (g.addr o) (g.base o) (g.L o) (σ.objs o) .ar u := hc
    rw [show σ.objs o = _ from hm] at hc
    have hu : u = g.base o := hc
    subst hu
    exact ⟨L, [], by simp, h, rfl⟩
  · cases hp
  · have hu : u = .slice none 0 0 := hc
    subst hu
    obtain ⟨vs, L', ho, hr, rfl⟩ := h
    rename_i xs'
    have hl : xs' = [] := by
      rcases ho.2 with ⟨_, hn⟩ | ⟨b, f, cap, cur, hb, _⟩
      · exact List.eq_nil_of_length_eq_zero hn
      · cases hb
    subst hl
    obtain ⟨_, rfl⟩ := hr
    rfl
  · rename_i n1 n2 n3 n4
    have e : hC s c s' = [] := by
      unfold hC
      split
      · cases s' with
        | own => exact (n1 _ _ _ _ _ _ _ _ _ rfl rfl rfl).elim
        | any => exact (n2 _ _ _ _ _ rfl rfl rfl).elim
        | d => exact (n3 _ _ _ _ _ _ _ rfl rfl rfl).elim
      · rfl
    rw [e]
    exact nn hp h
theorem gotCs : ∀ {ss : List S0} {cs : List C} {ss' : List S0} {us : List Value} {L : List Nat}, msPs σ.objs ss cs → (∀ (j : Nat) (c : C), cs[j]? = some c → ∃ u, us[j]? = some u ∧ CR w I g σ.objs c u) → pOcs ss cs ss' = true → SRs w' I' ss' us L → Spl (fun x L => SR w' I' x.2 (g.base x.1) L) (hCs ss cs ss') L
  | [], [], [], us, L, _, _, _, h => h.2
  | s :: ss, c :: cs, s' :: ss', us, L, hm, hc, hp, h => by
    obtain ⟨u1, us2, L1, L2, rfl, rfl, ⟨u, rfl, h1⟩, h2⟩ := h
    obtain ⟨p1, p2⟩ := Bool.and_eq_true_iff.1 hp
    obtain ⟨v, q1, q2⟩ := hc 0 c rfl
    simp at q1
    subst q1
    exact (gotC hm.1 q2 p1 h1).app (gotCs hm.2 (fun j c hj => by
      obtain ⟨v, q1, q2⟩ := hc (j + 1) c (by simpa using hj)
      exact ⟨v, by simpa using q1, q2⟩) p2 h2)
  | [], _ :: _, _, _, _, h, _, _, _ => h.elim
  | _ :: _, [], _, _, _, h, _, _, _ => h.elim
  | [], [], _ :: _, _, _, _, _, h, _ => by cases h
  | _ :: _, _ :: _, [], _, _, _, _, h, _ => by cases h
theorem gotA [Glob] (hi : Inv K w I g σ tm) {a a' : SA} {x : Operand} {L : List Nat} (hm : mA σ.objs a (σ.ev x)) (hp : pOa a (σ.ev x) a' = true) (h : AR w' I' a' (Act.eval ⟨tm, []⟩ x) L []) : Spl (fun x L => SR w' I' x.2 (g.base x.1) L) (hA a (σ.ev x) a') L := by
  obtain ⟨h1, h2⟩ := hi.ev x rfl
  generalize σ.ev x = v at hm hp h1 h2
  generalize Act.eval ⟨tm, []⟩ x = u at h h1 h2
  cases a with
  | c s =>
    cases v with
    | one c =>
      cases a' with
      | c s' =>
        have h1 : u.oneCell' = true := h1
        obtain ⟨u', q1, q2⟩ := h2 0 c rfl
        rw [val_one h1] at q1
        simp at q1
        subst q1
        exact gotC hm q2 hp h.2
      | _ => cases hp
    | _ => exact hm.elim
  | ag ss =>
    cases v with
    | ag cs =>
      cases a' with
      | ag ss' =>
        obtain ⟨us, rfl, e1, e2⟩ := h1
        obtain ⟨_, us', hu, hs⟩ := h
        have : us = us' := by simpa using hu
        subst this
        exact gotCs hm (fun j c hj => by
          obtain ⟨u, q1, q2⟩ := h2 j c hj
          exact ⟨u, by simpa [valCells, Value.cells] using q1, q2⟩) hp hs
      | _ => cases hp
    | _ => exact hm.elim
  | bx ss => cases v <;> exact hm.elim
  | sem φ => cases v <;> exact hm.elim
  | pd t x => cases v <;> exact hm.elim
  | nl => cases v <;> exact hm.elim
theorem AR.noB {a : SA} {u : Value} {L : List Nat} {B : List (Nat × Nat × Nat)} {v : SV} {a0 : SA} (hp : pOa a0 v a = true) (h : AR w I a u L B) : B = [] := by
  cases a with
  | c s => exact h.1
  | ag ss => exact h.1
  | bx ss => cases a0 <;> cases v <;> cases hp
  | sem φ => cases a0 <;> cases v <;> cases hp
  | pd t x => cases a0 <;> cases v <;> cases hp
  | nl => cases a0 <;> cases v <;> cases hp
theorem gotAs [Glob] (hi : Inv K w I g σ tm) : ∀ {as as' : List SA} {xs : List Operand} {L : List Nat} {B : List (Nat × Nat × Nat)}, mAs σ.objs as (xs.map σ.ev) → pOas as (xs.map σ.ev) as' = true → ARs w' I' as' (xs.map (Act.eval ⟨tm, []⟩)) L B → Spl (fun x L => SR w' I' x.2 (g.base x.1) L) (hAs as (xs.map σ.ev) as') L
  | [], [], [], L, B, _, _, h => h.1
  | a :: as, a' :: as', x :: xs, L, B, hm, hp, h => by
    obtain ⟨L1, L2, B1, B2, rfl, rfl, h1, h2⟩ := h
    obtain ⟨p1, p2⟩ := Bool.and_eq_true_iff.1 hp
    obtain rfl := AR.noB p1 h1
    exact (gotA hi hm.1 p1 h1).app (gotAs hi hm.2 p2 h2)
  | [], _, _ :: _, _, _, h, _, _ => h.elim
  | _ :: _, _, [], _, _, h, _, _ => h.elim
  | [], _ :: _, [], _, _, _, h, _ => by cases h
  | _ :: _, [], _ :: _, _, _, _, h, _ => by cases h
theorem hC_ok {s : S0} {c : C} {s' : S0} (hm : msP σ.objs s c) (hp : pOc s c s' = true) : (∀ x ∈ hC s c s', handOK σ.objs x) ∧ (hC s c s').map (·.1) = msO s c := by
  unfold hC
  split
  · refine ⟨fun x hx => ?_, rfl⟩
    simp only [List.mem_singleton] at hx
    subst hx
    refine ⟨_, _, _, _, hm, ?_⟩
    cases s' with
    | own e' t' dp' xs' => exact Nat.eq_of_beq_eq_true hp
    | any => trivial
    | d => cases hp
  · rename_i hn
    refine ⟨fun x hx => by simp at hx, ?_⟩
    cases s with
    | own e t dp xs =>
      cases c with
      | rf o r => cases r <;> first | rfl | exact (hn _ _ _ _ _ rfl rfl).elim
      | _ => rfl
    | _ => cases c <;> rfl
theorem hCs_ok : ∀ {ss : List S0} {cs : List C} {ss' : List S0}, msPs σ.objs ss cs → pOcs ss cs ss' = true → (∀ x ∈ hCs ss cs ss', handOK σ.objs x) ∧ (hCs ss cs ss').map (·.1) = msOs ss cs
  | [], [], [], _, _ => ⟨fun x hx => by simp [hCs] at hx, rfl⟩
  | s :: ss, c :: cs, s' :: ss', hm, hp => by
    obtain ⟨p1, p2⟩ := Bool.and_eq_true_iff.1 hp
    obtain ⟨a1, a2⟩ := hC_ok hm.1 p1
    obtain ⟨b1, b2⟩ := hCs_ok hm.2 p2
    exact ⟨fun x hx => (List.mem_append.1 hx).elim (a1 x) (b1 x), by simp only [hCs, msOs, List.map_append, a2, b2]⟩
  | [], _ :: _, _, h, _ => h.elim
  | _ :: _, [], _, h, _ => h.elim
  | [], [], _ :: _, _, h => by cases h
  | _ :: _, _ :: _, [], _, h => by cases h
theorem hAs_ok : ∀ {as : List SA} {vs : List SV} {as' : List SA}, mAs σ.objs as vs → pOas as vs as' = true → (∀ x ∈ hAs as vs as', handOK σ.objs x) ∧ (hAs as vs as').map (·.1) = mOs as vs
  | [], [], [], _, _ => ⟨fun x hx => by simp [hAs] at hx, rfl⟩
  | a :: as, v :: vs, a' :: as', hm, hp => by
    obtain ⟨p1, p2⟩ := Bool.and_eq_true_iff.1 hp
    have ha : (∀ x ∈ hA a v a', handOK σ.objs x) ∧ (hA a v a').map (·.1) = mO a v := by
      have hm := hm.1
      cases a with
      | c s => cases v with
        | one c => cases a' with
          | c s' => exact hC_ok hm p1
          | _ => cases p1
        | _ => exact hm.elim
      | ag ss => cases v with
        | ag cs => cases a' with
          | ag ss' => exact hCs_ok hm p1
          | _ => cases p1
        | _ => exact hm.elim
      | bx ss => cases v <;> exact hm.elim
      | sem φ => cases v <;> exact hm.elim
      | pd t x => cases v <;> exact hm.elim
      | nl => cases v <;> exact hm.elim
    obtain ⟨b1, b2⟩ := hAs_ok hm.2 p2
    exact ⟨fun x hx => (List.mem_append.1 hx).elim (ha.1 x) (b1 x), by simp only [hAs, mOs, List.map_append, ha.2, b2]⟩
  | [], _ :: _, _, h, _ => h.elim
  | _ :: _, [], _, h, _ => h.elim
  | [], [], _ :: _, _, h => by cases h
  | _ :: _, _ :: _, [], _, h => by cases h
end

/-- A function that is handed several slices that it may write. -/
theorem op_callM [Glob] {o : Oper} {d : Option Nat} {f : FuncId} {xs : List Operand} {tys : Array TypeId} {args post : List SA} {res : RS} {id : Nat} {os : List Nat} {hs : List (Nat × S0)} {N : St → Prop} (hF : FnC P f args post res) (ho : o.op = .call { callee := .value (.func f), args := xs.toArray, argTypes := tys }) (hd : o.dst = d) (ht : dstB σ.n d = true) (hf : fnB P f = true)
    (hargs : mAs σ.objs args (xs.map σ.ev)) (hos : mOs args (xs.map σ.ev) = os) (hnd0 : nodB os = true) (hpo : pOas args (xs.map σ.ev) post = true) (hhs : hAs args (xs.map σ.ev) post = hs)
    (hid : newR (σ.hand hs).objs d res.cells.length = some id) (hN : N ((enC id res.cells (σ.hand hs)).putD d (res.svN id))) : OpW P o N σ := by
  intro K w I g tm hi
  rw [fnB_run ho hf]
  simp only [Oper.upon]
  subst hos hhs
  have hnd := nodB_ok hnd0
  obtain ⟨hok, hkeys⟩ := hAs_ok hargs hpo
  have hmemL : ∀ {b : Nat}, b ∈ (mOs args (xs.map σ.ev)).flatMap g.L ↔ ∃ x ∈ hAs args (xs.map σ.ev) post, b ∈ g.L x.1 := by
    intro b
    rw [List.mem_flatMap, ← hkeys]
    constructor
    · rintro ⟨o, ho, hb⟩; obtain ⟨x, hx, rfl⟩ := List.mem_map.1 ho; exact ⟨x, hx, hb⟩
    · rintro ⟨x, hx, hb⟩; exact ⟨x.1, List.mem_map.2 ⟨x, hx, rfl⟩, hb⟩
  refine (hF w I _ _ [] ⟨fun b hb => (hi.immX b hb).1, hi.glob⟩ (mAs_ok hi hargs) (by simpa using flat_nodup hi.dis hi.nod hnd) (fun b hb => by
    simp only [List.map_nil, List.append_nil] at hb
    obtain ⟨x, hx, hb⟩ := hmemL.1 hb
    exact ⟨(hi.own x.1 b hb).1, hi.ob_lt hb⟩)).mono ?_
  rintro ee w' ⟨v, rfl, hfc, I', L', Lr, hI1, hI2, hpost, hres, hnd2, hown⟩
  obtain ⟨nd1, nd2, nd3⟩ := List.nodup_append.1 hnd2
  have hspl := gotAs hi hargs hpo hpost
  obtain ⟨fL, f1, f2, f3, f4⟩ := hspl.assign (by rw [hkeys]; exact hnd) nd1
  have hgr : Grow w w' fun b => ∃ x ∈ hAs args (xs.map σ.ev) post, b ∈ g.L x.1 := ⟨hfc.os, hfc.tape, hfc.output, hfc.size, fun b hb hn => hfc.old b hb (fun h => hn (hmemL.1 h)) (by simp)⟩
  have hinv := hi.handed (by rw [hkeys]; exact hnd) hok hgr hI1 (fun b hb => ⟨(hI2 b hb).1, fun hlt => ((hI2 b hb).2 hlt).imp (fun h => h) fun h => hmemL.1 h⟩) fL f1 f2 f3 fun x hx b hb => by
    obtain ⟨q1, _, q3, q4⟩ := hown b (by simp [f4 _ b hb])
    exact ⟨q1, q3, fun hlt => .inl (hmemL.1 (q4 hlt))⟩
  have hmine : ∀ x ∈ hAs args (xs.map σ.ev) post, ∀ b ∈ g.L x.1, K.mine b := fun x hx b hb => by
    obtain ⟨e, t, dp, ys, hq, _⟩ := hok x hx
    exact hi.own_mine hq (fun _ h => by cases h) hb
  have hfree : ∀ b ∈ Lr, Free K I' ⟨g.addr, g.base, fun o => bif memH ((hAs args (xs.map σ.ev) post).map (·.1)) o then fL o else g.L o⟩ b := by
    intro b hb
    obtain ⟨q1, _, q3, q4⟩ := hown b (by simp [hb])
    refine ⟨q1, fun y hy => ?_, fun hlt => ?_⟩
    · have hy : b ∈ (bif memH ((hAs args (xs.map σ.ev) post).map (·.1)) y then fL y else g.L y) := hy
      cases m : memH ((hAs args (xs.map σ.ev) post).map (·.1)) y with
      | true => rw [m] at hy; exact nd3 b (f4 y b hy) b hb rfl
      | false =>
        rw [m] at hy
        obtain ⟨x, hx, hbx⟩ := hmemL.1 (q4 (hi.ob_lt hy))
        have := hi.dis y x.1 b hy hbx
        have h3 := memH_iff.2 (List.mem_map.2 ⟨x, hx, this.symm⟩)
        rw [m] at h3; cases h3
    · obtain ⟨x, hx, hbx⟩ := hmemL.1 (q4 (Nat.lt_of_lt_of_le hlt hi.fr.size))
      exact hmine x hx b hbx hlt
  obtain ⟨g', hfin⟩ := hinv.res hres nd2 hfree (newR_ok hid) ht
  cases d with
  | none => simp only [Act.put, hd]; exact ⟨trivial, _, _, _, hN, hfin⟩
  | some t => simp only [Act.put, hd]; exact ⟨trivial, _, _, _, hN, hfin⟩
/-- The same, as an update. -/
theorem callM [Glob] {o : Oper} {d : Option Nat} {f : FuncId} {xs : List Operand} {tys : Array TypeId} {args post : List SA} {res : RS} {id : Nat} {os : List Nat} {hs : List (Nat × S0)} {N : St → Prop} (hF : FnC P f args post res) (ho : o.op = .call { callee := .value (.func f), args := xs.toArray, argTypes := tys }) (hd : o.dst = d) (ht : dstB σ.n d = true) (hf : fnB P f = true)
    (hargs : mAs σ.objs args (xs.map σ.ev)) (hos : mOs args (xs.map σ.ev) = os) (hnd0 : nodB os = true) (hpo : pOas args (xs.map σ.ev) post = true) (hhs : hAs args (xs.map σ.ev) post = hs)
    (hid : newR (σ.hand hs).objs d res.cells.length = some id) (hN : N ((σ.hand hs).over (dstU d (res.svN id)) (obL id res.cells))) : OpW P o N σ :=
  op_callM hF ho hd ht hf hargs hos hnd0 hpo hhs hid (by rw [enC_over, putD_over]; exact hN)
end Go.LX

/- Calls that write into a slice inside an owned slice's row. -/
set_option linter.unusedVariables false
set_option linter.unusedSimpArgs false
namespace Go.LX

variable {P : Program} {σ : St}

/-- The slice in cell j, told anew. -/
def setSl (e : Ty) (ys : List e.T) : (t : Ty) → t.T → Nat → Option t.T
  | .pr a b, x, j => bif Nat.blt j a.w then (setSl e ys a x.1 j).map fun y => (y, x.2) else (setSl e ys b x.2 (j - a.w)).map fun y => (x.1, y)
  | .sl e', _, j => bif Nat.beq j 0 then match decEq e e' with
    | isTrue h => castO h ys
    | isFalse _ => none
    else none
  | _, _, _ => none
theorem OT.cellSplit {w : World} {e : Ty} {ys : List e.T} : ∀ {t : Ty} {x : t.T} {us : List Value} {L : List Nat} {j : Nat}, OT w t x us L → cellAt t x j = some ⟨.sl e, ys⟩ →
    ∃ u A B C, us[j]? = some u ∧ L = A ++ B ++ C ∧ OT w (.sl e) ys [u] B ∧ ∀ (w' : World) (ys' : List e.T) (B' : List Nat) (x' : t.T), (∀ b ∈ A ++ C, w'.heap[b]? = w.heap[b]?) → OT w' (.sl e) ys' [u] B' → setSl e ys' t x j = some x' → OT w' t x' us (A ++ B' ++ C)
  | .pr a b, x, us, L, j, h, hc => by
    obtain ⟨u1, u2, L1, L2, rfl, rfl, h1, h2⟩ := h
    have hl := h1.len
    unfold cellAt at hc
    cases hb : Nat.blt j a.w with
    | true =>
      rw [hb] at hc
      simp only [cond_true] at hc
      have hlt : j < a.w := Nat.le_of_ble_eq_true hb
      obtain ⟨u, A, B, C, q1, rfl, q2, q3⟩ := OT.cellSplit h1 hc
      refine ⟨u, A, B, C ++ L2, by rw [List.getElem?_append_left (by omega)]; exact q1, by simp, q2, fun w' ys' B' x' hk ho hs => ?_⟩
      unfold setSl at hs
      rw [hb] at hs
      simp only [cond_true, Option.map_eq_some_iff] at hs
      obtain ⟨y, hy, rfl⟩ := hs
      exact ⟨u1, u2, A ++ B' ++ C, L2, rfl, by simp, q3 w' ys' B' y (fun b hb => hk b (by simp only [List.mem_append] at hb ⊢; rcases hb with h | h <;> simp [h])) ho hy, OT.kept (fun b hb => hk b (by simp [hb])) h2⟩
    | false =>
      rw [hb] at hc
      simp only [cond_false] at hc
      have hge : a.w ≤ j := Nat.not_lt.1 fun h => by rw [show Nat.blt j a.w = true from Nat.ble_eq_true_of_le h] at hb; cases hb
      obtain ⟨u, A, B, C, q1, rfl, q2, q3⟩ := OT.cellSplit h2 hc
      refine ⟨u, L1 ++ A, B, C, by rw [List.getElem?_append_right (by omega), hl]; exact q1, by simp, q2, fun w' ys' B' x' hk ho hs => ?_⟩
      unfold setSl at hs
      rw [hb] at hs
      simp only [cond_false, Option.map_eq_some_iff] at hs
      obtain ⟨y, hy, rfl⟩ := hs
      exact ⟨u1, u2, L1, A ++ B' ++ C, rfl, by simp, OT.kept (fun b hb => hk b (by simp [hb])) h1, q3 w' ys' B' y (fun b hb => hk b (by simp only [List.mem_append] at hb ⊢; rcases hb with h | h <;> simp [h])) ho hy⟩
  | .sl e', x, us, L, j, h, hc => by
    unfold cellAt at hc
    cases j with
    | succ j => cases (show (none : Option (Σ s : Ty, s.T)) = some _ from hc)
    | zero =>
      simp at hc
      obtain ⟨rfl, hc⟩ := hc
      cases hc
      obtain ⟨u, eid, vs, L', rfl, ho, hr, rfl⟩ := id h
      refine ⟨u, [], u.ownBlock.toList ++ L', [], rfl, by simp, h, fun w' ys' B' x' _ ho' hs => ?_⟩
      have : x' = ys' := by
        unfold setSl at hs
        rw [show Nat.beq 0 0 = true from rfl, cond_true] at hs
        split at hs
        · rename_i hh _; cases hs; rfl
        · cases hs
      subst this
      simpa using ho'
  | .i k, x, us, L, j, h, hc => by
    cases j with
    | zero => exact absurd (show (some ⟨.i k, x⟩ : Option (Σ s : Ty, s.T)) = some ⟨.sl e, ys⟩ from hc) (by simp)
    | succ j => cases (show (none : Option (Σ s : Ty, s.T)) = some _ from hc)
  | .u8, x, us, L, j, h, hc => by
    cases j with
    | zero => exact absurd (show (some ⟨.u8, x⟩ : Option (Σ s : Ty, s.T)) = some ⟨.sl e, ys⟩ from hc) (by simp)
    | succ j => cases (show (none : Option (Σ s : Ty, s.T)) = some _ from hc)
  | .bo, x, us, L, j, h, hc => by
    cases j with
    | zero => exact absurd (show (some ⟨.bo, x⟩ : Option (Σ s : Ty, s.T)) = some ⟨.sl e, ys⟩ from hc) (by simp)
    | succ j => cases (show (none : Option (Σ s : Ty, s.T)) = some _ from hc)
  | .st, x, us, L, j, h, hc => by
    cases j with
    | zero => exact absurd (show (some ⟨.st, x⟩ : Option (Σ s : Ty, s.T)) = some ⟨.sl e, ys⟩ from hc) (by simp)
    | succ j => cases (show (none : Option (Σ s : Ty, s.T)) = some _ from hc)
  | .un, x, us, L, j, h, hc => by unfold cellAt at hc; simp at hc

theorem OA.deep {w : World} {I : Nat → Prop} {e : TypeId} {t : Ty} {xs : List t.T} {u : Value} {L : List Nat} (hf : t.flat = true) (h : OA w I false e t xs u L) : OA w I true e t xs u L := by
  obtain ⟨vs, L', ho, hr, rfl⟩ := h
  refine ⟨vs, L', ho, hr.mono fun x u L1 _ _ h => ?_, rfl⟩
  obtain ⟨rfl, h⟩ := h
  exact RT.ot hf h
theorem OT.nilL {w : World} : ∀ {t : Ty} {x : t.T} {us : List Value} {L : List Nat}, t.flat = true → OT w t x us L → L = []
  | .i _, _, _, _, _, h => h.2
  | .u8, _, _, _, _, h => h.2
  | .bo, _, _, _, _, h => h.2
  | .st, _, _, _, _, h => h.2
  | .un, _, _, _, _, h => h.2
  | .sl _, _, _, _, hf, _ => by simp [Ty.flat] at hf
  | .pr a b, _, _, _, hf, h => by
    obtain ⟨f1, f2⟩ := Bool.and_eq_true_iff.1 hf
    obtain ⟨_, _, L1, L2, _, rfl, h1, h2⟩ := h
    rw [OT.nilL f1 h1, OT.nilL f2 h2]; rfl
theorem OA.flat {w : World} {I : Nat → Prop} {e : TypeId} {t : Ty} {xs : List t.T} {u : Value} {L : List Nat} (hf : t.flat = true) (h : OA w I true e t xs u L) : OA w I false e t xs u L := by
  obtain ⟨vs, L', ho, hr, rfl⟩ := h
  refine ⟨vs, L', ho, hr.mono fun x u L1 _ _ h => ?_, rfl⟩
  have h : OT w t x u L1 := h
  obtain rfl := OT.nilL hf h
  exact ⟨rfl, (OT.rt h).sub fun b hb => by simp at hb⟩
theorem OA.to {w : World} {I : Nat → Prop} {dp dp' : Bool} {e : TypeId} {t : Ty} {xs : List t.T} {u : Value} {L : List Nat} (hf : (dp == dp' || t.flat) = true) (h : OA w I dp e t xs u L) : OA w I dp' e t xs u L := by
  cases dp <;> cases dp' <;> first | exact h | skip
  · exact h.deep (by simpa using hf)
  · exact h.flat (by simpa using hf)
theorem OT_OA {w : World} {I : Nat → Prop} {t : Ty} {xs : List t.T} {u : Value} {L : List Nat} : OT w (.sl t) xs [u] L ↔ ∃ e, OA w I true e t xs u L := by
  constructor
  · rintro ⟨u', e, vs, L', hu, ho, hr, rfl⟩
    simp at hu
    subst hu
    exact ⟨e, vs, L', ho, hr, rfl⟩
  · rintro ⟨e, vs, L', ho, hr, rfl⟩
    exact ⟨u, e, vs, L', rfl, ho, hr, rfl⟩

/-- A function that is handed a slice inside a row. -/
theorem op_callN [Glob] {o : Oper} {d : Option Nat} {f : FuncId} {xs : List Operand} {tys : Array TypeId} {args post : TypeId → List SA} {res : RS} {id k q i j : Nat} {x : Operand} {e0 : TypeId} {t e : Ty} {dp : Bool} {zs : List t.T} {ys ys' : List e.T} {x' : t.T} {N : St → Prop}
    (hF : ∀ e1, FnC P f (args e1) (post e1) res) (ho : o.op = .call { callee := .value (.func f), args := xs.toArray, argTypes := tys }) (hd : o.dst = d) (ht : dstB σ.n d = true) (hf : fnB P f = true)
    (hk : ∀ e1, (args e1)[k]? = some (.c (.own e1 e dp ys))) (hx : xs[k]? = some x) (hv : σ.ev x = .one (.rf q (.ns i j))) (hq : σ.objs q = some (.rows e0 t true zs)) (hc : cellAt t (zs.getD i (dflt t)) j = some ⟨.sl e, ys⟩) (hdp : (true == dp || e.flat) = true) (hargs : ∀ e1, aPs σ.objs k (args e1) (xs.map σ.ev))
    (hpk : ∀ e1, (post e1)[k]? = some (.c (.own e1 e dp ys'))) (hpn : ∀ e1, nOs k (post e1) = true) (hs : setSl e ys' t (zs.getD i (dflt t)) j = some x')
    (hid : newR (σ.hand [(q, .own e0 t true (zs.set i x'))]).objs d res.cells.length = some id) (hN : N ((enC id res.cells (σ.hand [(q, .own e0 t true (zs.set i x'))])).putD d (res.svN id))) : OpW P o N σ := by
  intro K w I g tm hi
  rw [fnB_run ho hf]
  simp only [Oper.upon]
  have hp : seeO w I (g.addr q) (g.base q) (g.L q) (σ.objs q) (.ns i j) (Act.eval ⟨tm, []⟩ x) := (hi.ev_one hv).1
  rw [hq] at hp
  obtain ⟨hsl, b, f1, cap, hb, hlt, hcell⟩ := hp
  have hnod := hi.nod q
  obtain ⟨vs0, L', hor, hrows, hL⟩ := hi.rows hq
  rw [getD_at hlt] at hc hs
  obtain ⟨u1, us, u2, L1, L0, L2, hvs0, hL', hu1, hul, hfront, hrow, hbehind⟩ := hrows.at (fun _ _ _ h => h.len) (List.getElem?_eq_getElem hlt)
  have hrow : OT w t zs[i] us L0 := hrow
  obtain ⟨u, A, B, C, huj, hL0, hown, hback⟩ := OT.cellSplit hrow hc
  have hevx : Act.eval ⟨tm, []⟩ x = u := by
    have hjl := (List.getElem?_eq_some_iff.1 huj).1
    rw [hb] at hor
    have := hor.cells (i * t.w + j) u (by
      rw [hvs0, List.append_assoc, List.getElem?_append_right (by omega), hu1, Nat.add_sub_cancel_left, List.getElem?_append_left hjl]; exact huj)
    rw [← Nat.add_assoc, hcell] at this
    exact Option.some.inj this
  obtain ⟨e1, hoa⟩ := (OT_OA (I := I)).1 hown
  have hgL : g.L q = (g.base q).ownBlock.toList ++ (L1 ++ (A ++ B ++ C) ++ L2) := by rw [hL, hL', hL0]
  rw [hgL] at hnod
  have hBsub : ∀ c ∈ B, c ∈ g.L q := fun c hc => by rw [hgL]; simp [hc]
  have hBnd : B.Nodup := by
    have h1 := (List.nodup_append.1 hnod).2.1
    have h2 := (List.nodup_append.1 h1).1
    have h3 := (List.nodup_append.1 h2).2.1
    have h4 := (List.nodup_append.1 h3).1
    exact (List.nodup_append.1 h4).2.1
  -- the other blocks of q are none of B
  have hoth : ∀ c, c ∈ (g.base q).ownBlock.toList ∨ c ∈ L1 ∨ c ∈ A ∨ c ∈ C ∨ c ∈ L2 → c ∉ B := by
    intro c hc hB
    simp only [List.nodup_append, List.mem_append] at hnod
    obtain ⟨_, ⟨⟨_, ⟨⟨_, _, hAB⟩, _, hABC⟩, hL1⟩, _, hL2⟩, hO⟩ := hnod
    rcases hc with h | h | h | h | h
    · exact hO c h c (.inl (.inr (.inl (.inr hB)))) rfl
    · exact hL1 c h c (.inl (.inr hB)) rfl
    · exact hAB c h c hB rfl
    · exact hABC c (.inr hB) c h rfl
    · exact hL2 c (.inr (.inl (.inr hB))) c h rfl
  have har : AR w I (.c (.own e1 e dp ys)) (Act.eval ⟨tm, []⟩ x) B [] := ⟨rfl, by rw [hevx]; exact hoa.to hdp⟩
  refine (hF e1 w I _ B [] ⟨fun b hb => (hi.immX b hb).1, hi.glob⟩ (aPs_ok hi (hargs e1) (hk e1) hx har) (by simpa using hBnd) (fun b hb => by simp at hb; exact ⟨(hi.own q b (hBsub b hb)).1, hi.ob_lt (hBsub b hb)⟩)).mono ?_
  rintro ee w' ⟨v, rfl, hfc, I', Lq, Lr, hI1, hI2, hpost, hres, hnd2, hown2⟩
  obtain ⟨nd1, nd2, nd3⟩ := List.nodup_append.1 hnd2
  have hr := hpost.at (hpn e1) (hpk e1) (u := Act.eval ⟨tm, []⟩ x) (by simp [hx])
  have hoa2 : OA w' I' dp e1 e ys' u Lq := by have := hr.2; rw [hevx] at this; exact this
  have hoa3 : OA w' I' true e1 e ys' u Lq := hoa2.to (by cases dp <;> simp at hdp ⊢ <;> exact hdp)
  have hkept : ∀ c, c < w.heap.size → c ∉ B → w'.heap[c]? = w.heap[c]? := fun c h1 h2 => hfc.old c h1 h2 (by simp)
  have hlt' : ∀ c, c ∈ (g.base q).ownBlock.toList ∨ c ∈ L1 ∨ c ∈ A ∨ c ∈ C ∨ c ∈ L2 → c ∈ g.L q := fun c hc => by
    rw [hgL]; simp only [List.mem_append]
    rcases hc with h | h | h | h | h
    · exact .inl h
    · exact .inr (.inl (.inl h))
    · exact .inr (.inl (.inr (.inl (.inl h))))
    · exact .inr (.inl (.inr (.inr h)))
    · exact .inr (.inr h)
  have hk2 : ∀ c, c ∈ (g.base q).ownBlock.toList ∨ c ∈ L1 ∨ c ∈ A ∨ c ∈ C ∨ c ∈ L2 → w'.heap[c]? = w.heap[c]? := fun c hc => hkept c (hi.ob_lt (hlt' c hc)) (hoth c hc)
  have hrow2 : OT w' t x' us (A ++ Lq ++ C) := hback w' ys' Lq x' (fun c hc => hk2 c (by rcases List.mem_append.1 hc with h | h <;> simp [h])) ((OT_OA (I := I')).2 ⟨e1, hoa3⟩) hs
  have hIw : ∀ b, I b → ∀ fo, w'.cell? ⟨b, fo, none⟩ = w.cell? ⟨b, fo, none⟩ := fun b hb fo => cell_block (hkept b (hi.immX b hb).1 fun h => (hi.own q b (hBsub b h)).1 hb) fo
  -- the rows as they stand now
  have hnewrows : Rows (RR w' I' true t) (zs.set i x') (u1 ++ us ++ u2) (L1 ++ (A ++ Lq ++ C) ++ L2) := by
    rw [List.set_eq_take_append_cons_drop, if_pos hlt, List.append_assoc, List.append_assoc]
    refine Rows.append (hfront.mono fun x u M _ hM h => RR.kept hI1 hIw (fun c hc => hk2 c (.inr (.inl (hM c hc)))) h) ?_
    exact ⟨us, u2, A ++ Lq ++ C, L2, rfl, rfl, hrow2, hbehind.mono fun x u M _ hM h => RR.kept hI1 hIw (fun c hc => hk2 c (.inr (.inr (.inr (.inr (hM c hc)))))) h⟩
  have hblk : ∀ b', (g.base q).ownBlock = some b' → w'.heap[b']? = w.heap[b']? := fun b' hb' => hk2 b' (.inl (by rw [hb']; simp))
  have hOAq : OA w' I' true e0 t (zs.set i x') (g.base q) ((g.base q).ownBlock.toList ++ (L1 ++ (A ++ Lq ++ C) ++ L2)) := by
    refine ⟨vs0, _, ?_, by rw [hvs0]; exact hnewrows, rfl⟩
    rw [List.length_set]; exact ownsR_block hor hblk
  have hgr : Grow w w' fun b => ∃ x ∈ [(q, S0.own e0 t true (zs.set i x'))], b ∈ g.L x.1 := ⟨hfc.os, hfc.tape, hfc.output, hfc.size, fun c hc hn => hkept c hc fun h => hn ⟨(q, S0.own e0 t true (zs.set i x')), by simp, hBsub c h⟩⟩
  -- where the blocks of q are now
  have hmemf : ∀ c, c ∈ (g.base q).ownBlock.toList ++ (L1 ++ (A ++ Lq ++ C) ++ L2) ↔ (c ∈ (g.base q).ownBlock.toList ∨ c ∈ L1 ∨ c ∈ A ∨ c ∈ C ∨ c ∈ L2) ∨ c ∈ Lq := by
    intro c; simp only [List.mem_append]
    constructor
    · rintro (h | ((h | ((h | h) | h)) | h)) <;> simp [h]
    · rintro ((h | h | h | h | h) | h) <;> simp [h]
  have hqL : ∀ c ∈ Lq, ¬ I' c ∧ c < w'.heap.size ∧ (c < w.heap.size → c ∈ B) := fun c hc => by
    obtain ⟨q1, _, q3, q4⟩ := hown2 c (by simp [hc])
    exact ⟨q1, q3, q4⟩
  have hdisj : ∀ c, c ∈ (g.base q).ownBlock.toList ∨ c ∈ L1 ∨ c ∈ A ∨ c ∈ C ∨ c ∈ L2 → c ∉ Lq := fun c hc h => hoth c hc ((hqL c h).2.2 (hi.ob_lt (hlt' c hc)))
  have hnodf : ((g.base q).ownBlock.toList ++ (L1 ++ (A ++ Lq ++ C) ++ L2)).Nodup := by
    simp only [List.nodup_append, List.mem_append] at hnod ⊢
    obtain ⟨n1, ⟨⟨n2, ⟨⟨n3, _, hAB⟩, n4, hABC⟩, hL1⟩, n5, hL2⟩, hO⟩ := hnod
    refine ⟨n1, ⟨⟨n2, ⟨⟨n3, nd1, ?_⟩, n4, ?_⟩, ?_⟩, n5, ?_⟩, ?_⟩
    · rintro a ha c hc rfl; exact hdisj a (.inr (.inr (.inl ha))) hc
    · rintro a (ha | ha) c hc rfl
      · exact hABC a (.inl ha) a hc rfl
      · exact hdisj a (.inr (.inr (.inr (.inl hc)))) ha
    · rintro a ha c ((hc | hc) | hc) rfl
      · exact hL1 a ha a (.inl (.inl hc)) rfl
      · exact hdisj a (.inr (.inl ha)) hc
      · exact hL1 a ha a (.inr hc) rfl
    · rintro a (ha | ((ha | ha) | ha)) c hc rfl
      · exact hL2 a (.inl ha) a hc rfl
      · exact hL2 a (.inr (.inl (.inl ha))) a hc rfl
      · exact hdisj a (.inr (.inr (.inr (.inr hc)))) ha
      · exact hL2 a (.inr (.inr ha)) a hc rfl
    · rintro a ha c ((hc | ((hc | hc) | hc)) | hc) rfl
      · exact hO a ha a (.inl (.inl hc)) rfl
      · exact hO a ha a (.inl (.inr (.inl (.inl hc)))) rfl
      · exact hdisj a (.inl ha) hc
      · exact hO a ha a (.inl (.inr (.inr hc))) rfl
      · exact hO a ha a (.inr hc) rfl
  have hinv := hi.handed (hs := [(q, .own e0 t true (zs.set i x'))]) (by simp) (fun x hx => by
    simp only [List.mem_singleton] at hx
    subst hx
    exact ⟨_, _, _, _, hq, rfl⟩) hgr hI1 (fun c hc => ⟨(hI2 c hc).1, fun h => ((hI2 c hc).2 h).imp (fun h => h) fun h => ⟨(q, S0.own e0 t true (zs.set i x')), by simp, hBsub c h⟩⟩)
    (fun x => if x = q then (g.base q).ownBlock.toList ++ (L1 ++ (A ++ Lq ++ C) ++ L2) else []) (fun x hx => by
      simp only [List.mem_singleton] at hx
      subst hx
      simp only [if_true]
      exact hOAq) (fun x => by
      by_cases ex : x = q
      · simp only [ex, if_true]; exact hnodf
      · simp only [ex, if_false]; exact List.nodup_nil) (fun x y c hx hy => by
      by_cases ex : x = q <;> by_cases ey : y = q
      · rw [ex, ey]
      · simp [ey] at hy
      · simp [ex] at hx
      · simp [ex] at hx) (fun x hx c hc => by
      simp only [List.mem_singleton] at hx
      subst hx
      simp only [if_true] at hc
      rcases (hmemf c).1 hc with h | h
      · refine ⟨fun hI => ?_, Nat.lt_of_lt_of_le (hi.ob_lt (hlt' c h)) hfc.size, fun _ => .inl ⟨(q, S0.own e0 t true (zs.set i x')), by simp, hlt' c h⟩⟩
        rcases (hI2 c hI).2 (hi.ob_lt (hlt' c h)) with h' | h'
        · exact (hi.own q c (hlt' c h)).1 h'
        · exact hoth c h h'
      · obtain ⟨q1, q2, q3⟩ := hqL c h
        exact ⟨q1, q2, fun hlt => .inl ⟨(q, S0.own e0 t true (zs.set i x')), by simp, hBsub c (q3 hlt)⟩⟩)
  have hmine : ∀ c ∈ g.L q, K.mine c := fun c hc => hi.own_mine hq (fun _ h => by cases h) hc
  have hfree : ∀ c ∈ Lr, Free K I' ⟨g.addr, g.base, fun o => bif memH ([(q, S0.own e0 t true (zs.set i x'))].map (·.1)) o then (if o = q then (g.base q).ownBlock.toList ++ (L1 ++ (A ++ Lq ++ C) ++ L2) else []) else g.L o⟩ c := by
    intro c hc
    obtain ⟨q1, _, q3, q4⟩ := hown2 c (by simp [hc])
    refine ⟨q1, fun y hy => ?_, fun hlt => hmine c (hBsub c (q4 (Nat.lt_of_lt_of_le hlt hi.fr.size))) hlt⟩
    by_cases ey : y = q
    · subst ey
      have hy : c ∈ (g.base y).ownBlock.toList ++ (L1 ++ (A ++ Lq ++ C) ++ L2) := by simpa [memH] using hy
      rcases (hmemf c).1 hy with h | h
      · exact hoth c h (q4 (hi.ob_lt (hlt' c h)))
      · exact nd3 c h c hc rfl
    · have hy : c ∈ g.L y := by simpa [memH, beq_ne ey] using hy
      exact ey (hi.dis y q c hy (hBsub c (q4 (hi.ob_lt hy))))
  obtain ⟨g', hfin⟩ := hinv.res hres nd2 hfree (newR_ok hid) ht
  cases d with
  | none => simp only [Act.put, hd]; exact ⟨trivial, _, _, _, hN, hfin⟩
  | some t => simp only [Act.put, hd]; exact ⟨trivial, _, _, _, hN, hfin⟩
/-- The same, as an update. -/
theorem callN [Glob] {o : Oper} {d : Option Nat} {f : FuncId} {xs : List Operand} {tys : Array TypeId} {args post : TypeId → List SA} {res : RS} {id q i j : Nat} (k : Nat) {x : Operand} {e0 : TypeId} {t e : Ty} {dp : Bool} {zs : List t.T} {ys ys' : List e.T} {x' : t.T} {N : St → Prop}
    (hF : ∀ e1, FnC P f (args e1) (post e1) res) (ho : o.op = .call { callee := .value (.func f), args := xs.toArray, argTypes := tys }) (hd : o.dst = d) (ht : dstB σ.n d = true) (hf : fnB P f = true)
    (hk : ∀ e1, (args e1)[k]? = some (.c (.own e1 e dp ys))) (hx : xs[k]? = some x) (hv : σ.ev x = .one (.rf q (.ns i j))) (hq : σ.objs q = some (.rows e0 t true zs)) (hc : cellAt t (zs.getD i (dflt t)) j = some ⟨.sl e, ys⟩) (hdp : (true == dp || e.flat) = true) (hargs : ∀ e1, aPs σ.objs k (args e1) (xs.map σ.ev))
    (hpk : ∀ e1, (post e1)[k]? = some (.c (.own e1 e dp ys'))) (hpn : ∀ e1, nOs k (post e1) = true) (hs : setSl e ys' t (zs.getD i (dflt t)) j = some x')
    (hid : newR (σ.hand [(q, .own e0 t true (zs.set i x'))]).objs d res.cells.length = some id) (hN : N ((σ.hand [(q, .own e0 t true (zs.set i x'))]).over (dstU d (res.svN id)) (obL id res.cells))) : OpW P o N σ :=
  op_callN hF ho hd ht hf hk hx hv hq hc hdp hargs hpk hpn hs hid (by rw [enC_over, putD_over]; exact hN)
end Go.LX

