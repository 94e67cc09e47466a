/- The state at a body's beginning. -/
import Derived.Test.YtojaiockbpcilaaLxSpec
set_option linter.unusedVariables false
set_option linter.unusedSimpArgs false
namespace Go.LX

variable {P : Program} {σ : St}

def SA.sz : SA → Nat
  | .c _ => 1
  | .ag ss => ss.length
  | .bx ss => ss.length
  | .sem _ => 0
  | .pd _ _ => 0
  | .nl => 0
def szsOK (args : List SA) : Bool := Nat.ble args.length 60 && args.all fun a => Nat.ble a.sz 14
def bxAt : Option SA → Option Value → Option (Nat × Nat)
  | some (.bx _), some (.pointer (some a)) => some (a.block, a.off)
  | _, _ => none
def ownAt : Option SA → Option Value → Nat → Option Value
  | some (.c (.own ..)), v, 0 => v
  | some (.ag ss), some (.agg us), j => match ss[j]? with
    | some (.own ..) => us[j]?
    | _ => none
  | _, _, _ => none
def KE (args : List SA) (vals : List Value) (k : Nat) : Option (Nat × Nat) := if k % 16 = 0 then bxAt args[k / 16]? vals[k / 16]? else none
def KB (args : List SA) (vals : List Value) (k : Nat) : Option Value := if k % 16 = 0 then none else ownAt args[k / 16]? vals[k / 16]? (k % 16 - 1)
def KOf (w : World) (I : Nat → Prop) (args : List SA) (vals : List Value) (L : List Nat) (B : List (Nat × Nat × Nat)) : Ctx :=
  ⟨w, I, fun b => b ∈ L, fun b f => ∃ r ∈ B, r.1 = b ∧ r.2.1 ≤ f ∧ f < r.2.1 + r.2.2, KE args vals, KB args vals⟩

section
variable {K : Ctx} {w : World} {I : Nat → Prop} {tm : Array Value}
theorem SRs.cells {ss : List S0} {us : List Value} {L : List Nat} (h : SRs w I ss us L) : us.length = ss.length ∧ ∀ u ∈ us, u.oneCell' = true := by
  constructor
  · have := Rows.len (k := 1) (R := fun s us L => ∃ u, us = [u] ∧ SR w I s u L) (fun _ _ _ ⟨_, h, _⟩ => by subst h; rfl) h
    simpa using this
  · exact rows_one (R := fun s us L => ∃ u, us = [u] ∧ SR w I s u L) (fun _ _ _ ⟨u, h, hs⟩ v hv => by subst h; simp at hv; subst hv; exact hs.one) h
theorem enL_len : ∀ {ss : List S0} {id : Nat}, (enL id ss).length = ss.length
  | [], _ => rfl
  | s :: ss, id => by simp [enL, enL_len (ss := ss) (id := id + 1)]

theorem enAll_ok [Glob] : ∀ {as : List SA} {us : List Value} {L : List Nat} {B : List (Nat × Nat × Nat)} {p : Nat} {σ : St} {g : Gh}, Inv K w I g σ tm → ARs w I as us L B → K.w0 = w → L.Nodup → (B.map (·.1)).Nodup → (∀ b ∈ L, Free K I g b ∧ b ∉ B.map (·.1)) →
    (∀ r ∈ B, ¬ I r.1 ∧ r.1 < w.heap.size ∧ ¬ K.X r.1 ∧ (∀ x, r.1 ∉ g.L x) ∧ ∀ f, r.2.1 ≤ f → f < r.2.1 + r.2.2 → K.R r.1 f) → (∀ k, 16 * p ≤ k → σ.objs k = none) → (as.all fun a => Nat.ble a.sz 14) = true → p + as.length ≤ σ.n → (∀ i u, us[i]? = some u → tm.getD (p + i) undef = u) →
    (∀ i, K.E (16 * (p + i)) = bxAt as[i]? us[i]?) → (∀ k, k % 16 ≠ 0 → K.E k = none) → (∀ i j, j < 15 → K.B (16 * (p + i) + 1 + j) = ownAt as[i]? us[i]? j) → (∀ k, k % 16 = 0 → K.B k = none) → ∃ g', Inv K w I g' (enAll p as σ) tm
  | [], [], _, _, _, _, g, hi, _, _, _, _, _, _, _, _, _, _, _, _, _, _ => ⟨g, hi⟩
  | [], _ :: _, _, _, _, _, _, _, h, _, _, _, _, _, _, _, _, _, _, _, _, _ => h.elim
  | _ :: _, [], _, _, _, _, _, _, h, _, _, _, _, _, _, _, _, _, _, _, _, _ => h.elim
  | a :: as, u :: us, L, B, p, σ, g, hi, h, hw0, hnd, hndB, hf, hBx, hob, hsz, hn, htm, hE, hE0, hB, hB0 => by
    obtain ⟨L1, L2, B1, B2, rfl, rfl, h1, h2⟩ := h
    rw [List.nodup_append] at hnd
    obtain ⟨nd1, nd2, nd3⟩ := hnd
    rw [List.map_append, List.nodup_append] at hndB
    obtain ⟨nb1, nb2, nb3⟩ := hndB
    simp only [List.all_cons, Bool.and_eq_true] at hsz
    obtain ⟨sz1, sz2⟩ := hsz
    have sz1 := Nat.le_of_ble_eq_true sz1
    simp only [List.length_cons] at hn
    have hu0 : tm.getD p undef = u := htm 0 u rfl
    have hEp : K.E (16 * p) = bxAt (some a) (some u) := by have := hE 0; simpa using this
    have hBp : ∀ j, j < 15 → K.B (16 * p + 1 + j) = ownAt (some a) (some u) j := fun j hj => by have := hB 0 j hj; simpa using this
    -- the rest, from a state told of this argument
    have rest : ∀ (σ1 : St) (g1 : Gh), Inv K w I g1 σ1 tm → enA p a σ = σ1 → (∀ b, (∀ x, b ∉ g.L x) → b ∉ L1 → b ∉ B1.map (·.1) → ∀ x, b ∉ g1.L x) → (∀ k, 16 * (p + 1) ≤ k → σ1.objs k = σ.objs k) → σ1.n = σ.n → ∃ g', Inv K w I g' (enAll p (a :: as) σ) tm := by
      intro σ1 g1 hi1 he hL1 hob1 hn1
      show ∃ g', Inv K w I g' (enAll (p + 1) as (enA p a σ)) tm
      rw [he]
      refine enAll_ok (p := p + 1) hi1 h2 hw0 nd2 nb2 (fun b hb => ?_) (fun r hr => ?_) (fun k hk => ?_) sz2 (by rw [hn1]; omega) (fun i v hv => ?_) (fun i => ?_) hE0 (fun i j hj => ?_) hB0
      · obtain ⟨q1, q2⟩ := hf b (by simp [hb])
        rw [List.map_append, List.mem_append, not_or] at q2
        exact ⟨⟨q1.i, hL1 b q1.l (fun h => nd3 b h b hb rfl) q2.1, q1.m⟩, q2.2⟩
      · obtain ⟨q1, q2, q3, q4, q5⟩ := hBx r (by simp [hr])
        exact ⟨q1, q2, q3, hL1 _ q4 (fun h => (hf r.1 (by simp [h])).2 (List.mem_map.2 ⟨r, by simp [hr], rfl⟩)) (fun h => nb3 _ h _ (List.mem_map.2 ⟨r, hr, rfl⟩) rfl), q5⟩
      · rw [hob1 k hk]; exact hob k (by omega)
      · have := htm (i + 1) v (by simpa using hv)
        rw [← this]; congr 1; omega
      · have := hE (i + 1)
        rw [show 16 * (p + 1 + i) = 16 * (p + (i + 1)) by omega]; simpa using this
      · have := hB (i + 1) j hj
        rw [show 16 * (p + 1 + i) + 1 + j = 16 * (p + (i + 1)) + 1 + j by omega]; simpa using this
    have cells : ∀ {ss : List S0} {cs : List Value}, SRs w I ss cs L1 → ss.length ≤ 14 → (∀ j v, j < 15 → K.B (16 * p + 1 + j) = some v → cs[j]? = some v) →
        ∃ g', Inv K w I g' (enC (16 * p + 1) ss σ) tm ∧ (∀ b, (∀ x, b ∉ g.L x) → b ∉ L1 → ∀ x, b ∉ g'.L x) ∧ (∀ (j : Nat) (c : C), (enL (16 * p + 1) ss)[j]? = some c → ∃ u, cs[j]? = some u ∧ u.oneCell' = true ∧ CR w I g' (enC (16 * p + 1) ss σ).objs c u) ∧ (enC (16 * p + 1) ss σ).n = σ.n ∧ (∀ k, k < 16 * p + 1 ∨ 16 * p + 1 + ss.length ≤ k → (enC (16 * p + 1) ss σ).objs k = σ.objs k) := by
      intro ss cs hs hl hb
      obtain ⟨g', r1, r2, r3, r4, r5, r6, r7, r8⟩ := enC_ok (id := 16 * p + 1) hi hs nd1 (fun b hb => (hf b (by simp [hb])).1) fun k hk1 hk2 => by
        refine ⟨hob k (by omega), fun a => by rw [hE0 k (by omega)]; simp, fun v hv => ?_⟩
        have := hb (k - (16 * p + 1)) v (by omega)
        rw [show 16 * p + 1 + (k - (16 * p + 1)) = k by omega] at this
        exact this hv
      exact ⟨g', r1, r2, r4, r6, fun k hk => (r7 k hk).1⟩
    cases a with
    | c s =>
      obtain ⟨rfl, hs⟩ := h1
      obtain ⟨g', r1, r2, r4, r6, r7⟩ := cells (ss := [s]) (cs := [u]) (Rows.single.2 ⟨u, rfl, hs⟩) (by simp) fun j v hj hv => by
        rw [hBp j hj] at hv
        cases j with
        | succ j => cases s <;> simp [ownAt] at hv
        | zero =>
          cases s <;> simp [ownAt] at hv
          rw [hv]; rfl
      obtain ⟨v, q1, q2, q3⟩ := r4 0 _ rfl
      simp at q1
      subst q1
      refine rest _ g' (r1.tell (t := p) (s := .one (cellE (16 * p + 1) s)) (by rw [r6]; omega) (by rw [hu0]; exact q2) fun i c hc => ?_) rfl (fun b hb h1 _ => r2 b hb h1) (fun k hk => r7 k (.inr (by simp; omega))) r6
      · obtain ⟨rfl, rfl⟩ := one_cell hc
        exact ⟨u, by rw [hu0, val_one q2]; rfl, q3⟩
    | ag ss =>
      have sz1 : ss.length ≤ 14 := sz1
      obtain ⟨rfl, cs, rfl, hs⟩ := h1
      obtain ⟨g', r1, r2, r4, r6, r7⟩ := cells hs sz1 fun j v hj hv => by
        rw [hBp j hj] at hv
        simp only [ownAt] at hv
        split at hv
        · simpa using hv
        · cases hv
      obtain ⟨k1, k2⟩ := hs.cells
      have hl : (enL (16 * p + 1) ss).length = ss.length := enL_len
      refine rest _ g' (r1.tell (t := p) (s := .ag (enL (16 * p + 1) ss)) (by rw [r6]; omega) (by rw [hu0]; exact ⟨cs, rfl, by rw [k1, hl], k2⟩) fun i c hc => ?_) rfl (fun b hb h1 _ => r2 b hb h1) (fun k hk => r7 k (.inr (by omega))) r6
      · obtain ⟨v, q1, q2, q3⟩ := r4 i c hc
        exact ⟨v, by rw [hu0]; simpa [valCells, Value.cells] using q1, q3⟩
    | bx ss =>
      have sz1 : ss.length ≤ 14 := sz1
      obtain ⟨b, f, cs, rfl, rfl, hs, hcell⟩ := h1
      obtain ⟨g', r1, r2, r4, r6, r7⟩ := cells hs sz1 fun j v hj hv => by rw [hBp j hj] at hv; cases hv
      obtain ⟨q1, q2, q3, q4, q5⟩ := hBx (b, f, ss.length) (by simp)
      have hbL : b ∉ L1 := fun h => (hf b (by simp [h])).2 (by simp)
      have hl : (enL (16 * p + 1) ss).length = ss.length := enL_len
      obtain ⟨k1, k2⟩ := hs.cells
      have hbox := r1.xbox (o := 16 * p) (b := b) (f := f) (cs := enL (16 * p + 1) ss) (us := cs) (by rw [r7 _ (.inl (by omega))]; exact hob _ (Nat.le_refl _)) hEp (fun v hv => by rw [hB0 _ (by omega)] at hv; cases hv) q3 q1 q2 (by rw [hw0]; exact q2) (r2 b q4 hbL)
        (fun j hj => q5 (f + j) (by simp) (by rw [hl] at hj; simp; omega)) r4 hcell
      refine rest _ _ (hbox.tell (t := p) (s := .one (.rf (16 * p) (.pb 0))) (by show p < (enC (16 * p + 1) ss σ).n; rw [r6]; omega) (by rw [hu0]; rfl) fun i c hc => ?_) rfl (fun b' hb' h1 h2 x hx => ?_) (fun k hk => ?_) r6
      · obtain ⟨rfl, rfl⟩ := one_cell hc
        refine ⟨_, by rw [hu0]; rfl, ?_⟩
        show seeO _ _ _ _ _ ((St.setO _ _ _).objs _) _ _
        rw [St.setO_same, Gh.setO_eq.1]
        rfl
      · by_cases ex : x = 16 * p
        · subst ex; rw [Gh.setO_eq.2.2] at hx; simp at hx; subst hx; exact h2 (by simp)
        · rw [(Gh.setO_ne ex).2.2] at hx; exact r2 b' hb' h1 x hx
      · show ((enC (16 * p + 1) ss σ).setO _ _).objs k = _
        rw [St.setO_other _ _ _ _ (by omega)]; exact r7 k (.inr (by omega))
    | sem φ =>
      obtain ⟨rfl, rfl, h1, h2', h3⟩ := h1
      refine rest _ g (hi.tell (t := p) (s := .one (.sem φ)) (by omega) (by rw [hu0]; exact h1) fun i c hc => ?_) rfl (fun b hb _ _ => hb) (fun _ _ => rfl) rfl
      obtain ⟨rfl, rfl⟩ := one_cell hc
      exact ⟨u, by rw [hu0, val_one h1]; rfl, h2', h3⟩
    | pd t x =>
      obtain ⟨rfl, rfl, h1⟩ := h1
      have hone : u.oneCell' = true := by obtain ⟨b, o, us, rfl, _⟩ := h1; rfl
      refine rest _ g (hi.tell (t := p) (s := .one (.pd t x 0)) (by omega) (by rw [hu0]; exact hone) fun i c hc => ?_) rfl (fun b hb _ _ => hb) (fun _ _ => rfl) rfl
      obtain ⟨rfl, rfl⟩ := one_cell hc
      exact ⟨u, by rw [hu0, val_one hone]; rfl, h1⟩
    | nl =>
      obtain ⟨rfl, rfl, rfl⟩ := h1
      refine rest _ g (hi.tell (t := p) (s := .one .nl) (by omega) (by rw [hu0]; rfl) fun i c hc => ?_) rfl (fun b hb _ _ => hb) (fun _ _ => rfl) rfl
      obtain ⟨rfl, rfl⟩ := one_cell hc
      exact ⟨_, by rw [hu0]; rfl, rfl⟩

theorem ARs.len {as : List SA} {us : List Value} {L : List Nat} {B : List (Nat × Nat × Nat)} (h : ARs w I as us L B) : as.length = us.length := by
  induction as generalizing us L B with
  | nil => cases us with
    | nil => rfl
    | cons => exact h.elim
  | cons a as ih => cases us with
    | nil => exact h.elim
    | cons u us => obtain ⟨_, _, _, _, _, _, _, h⟩ := h; simp [ih h]
theorem ARs.boxes {as : List SA} {us : List Value} {L : List Nat} {B : List (Nat × Nat × Nat)} (h : ARs w I as us L B) : True := trivial

theorem Inv.enter [Glob] {args : List SA} {vals : List Value} {L : List Nat} {B : List (Nat × Nat × Nat)} {n : Nat} (hI : ∀ b, I b → b < w.heap.size) (hG : GlobOK w I) (h : ARs w I args vals L B) (hnd : (L ++ B.map (·.1)).Nodup) (hf : ∀ b ∈ L ++ B.map (·.1), ¬ I b ∧ b < w.heap.size) (hsz : szsOK args = true) (hn : args.length ≤ n) :
    ∃ g, Inv (KOf w I args vals L B) w I g (St.enter n args) (vals.toArray ++ Array.replicate (n - vals.length) undef) := by
  have hl := h.len
  obtain ⟨s1, s2⟩ := Bool.and_eq_true_iff.1 hsz
  have s1 := Nat.le_of_ble_eq_true s1
  rw [List.nodup_append] at hnd
  obtain ⟨n1, n2, n3⟩ := hnd
  have hsome : ∀ {k : Nat} {x : SA}, args[k]? = some x → k < args.length := fun h => (List.getElem?_eq_some_iff.1 h).1
  have hE1000 : ∀ o a, KE args vals o = some a → o < 1000 := by
    intro o a ho
    unfold KE at ho
    split at ho
    · cases hx : args[o / 16]? with
      | none => rw [hx] at ho; simp [bxAt] at ho
      | some x => have := hsome hx; omega
    · cases ho
  have hB1000 : ∀ o a, KB args vals o = some a → o < 1000 := by
    intro o a ho
    unfold KB at ho
    split at ho
    · cases ho
    · cases hx : args[o / 16]? with
      | none => rw [hx] at ho; simp [ownAt] at ho
      | some x => have := hsome hx; omega
  have base : Inv (KOf w I args vals L B) w I ⟨fun _ => (0, 0), fun _ => undef, fun _ => []⟩ ⟨n, fun _ => .un, fun _ => none⟩ (vals.toArray ++ Array.replicate (n - vals.length) undef) := {
    fr := ⟨rfl, rfl, rfl, Nat.le_refl _, fun _ _ _ _ => rfl, fun _ _ _ _ _ => rfl, fun _ _ _ _ => rfl⟩
    size := by simp; omega
    glob := hG
    imm0 := fun _ h => h
    immX := fun b hb => ⟨hI b hb, fun _ => .inl hb⟩
    dis := fun o o' b hb => by simp at hb
    nod := fun _ => List.nodup_nil
    own := fun o b hb => by simp at hb
    ext := fun o a ho => ⟨hE1000 o a ho, fun q hq => by cases hq⟩
    exB := fun o a ho => ⟨hB1000 o a ho, fun q hq => by cases hq⟩
    obj := fun o => rfl
    shape := fun t => trivial
    slot := fun t i c hc => by simp [SV.cells] at hc }
  refine enAll_ok (p := 0) base h rfl n1 n2 (fun b hb => ⟨⟨(hf b (by simp [hb])).1, fun _ => by simp, fun _ => hb⟩, fun hb' => n3 b hb b hb' rfl⟩) (fun r hr => ?_) (fun _ _ => rfl) s2 (by simpa using hn) (fun i u hu => ?_) (fun i => ?_) (fun k hk => ?_) (fun i j hj => ?_) fun k hk => ?_
  · have hm : r.1 ∈ B.map (·.1) := List.mem_map.2 ⟨r, hr, rfl⟩
    obtain ⟨q1, q2⟩ := hf r.1 (by simp only [List.mem_append]; exact .inr hm)
    exact ⟨q1, q2, fun hx => n3 _ hx _ hm rfl, fun _ => by simp, fun f h1 h2 => ⟨r, hr, rfl, h1, h2⟩⟩
  · have hlt : i < vals.length := (List.getElem?_eq_some_iff.1 hu).1
    simp [Array.getD_eq_getD_getElem?, Array.getElem?_append, hlt] at hu ⊢
    simp [hu]
  · show KE args vals _ = _
    unfold KE
    rw [if_pos (by omega), show 16 * (0 + i) / 16 = i by omega]
  · show KE args vals _ = _
    unfold KE
    rw [if_neg hk]
  · show KB args vals _ = _
    unfold KB
    rw [if_neg (by omega), show (16 * (0 + i) + 1 + j) / 16 = i by omega, show (16 * (0 + i) + 1 + j) % 16 - 1 = j by omega]
  · show KB args vals _ = _
    unfold KB
    rw [if_pos hk]
end
end Go.LX
