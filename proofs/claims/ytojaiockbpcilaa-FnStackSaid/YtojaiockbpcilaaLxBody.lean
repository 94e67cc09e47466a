/- A function by its body. -/
import Derived.Test.YtojaiockbpcilaaLxFn
set_option linter.unusedVariables false
set_option linter.unusedSimpArgs false
namespace Go.LX

variable {P : Program} {σ : St}

theorem flat_nodup {g : Gh} (hd : ∀ o o' b, b ∈ g.L o → b ∈ g.L o' → o = o') (hn : ∀ o, (g.L o).Nodup) : ∀ {os : List Nat}, os.Nodup → (os.flatMap g.L).Nodup
  | [], _ => List.nodup_nil
  | o :: os, h => by
    rw [List.nodup_cons] at h
    rw [List.flatMap_cons, List.nodup_append]
    refine ⟨hn o, flat_nodup hd hn h.2, ?_⟩
    rintro a ha b hb rfl
    obtain ⟨o', ho', hb'⟩ := List.mem_flatMap.1 hb
    exact h.1 (hd o o' a ha hb' ▸ ho')
def isRows (ob : Nat → Option Ob) (o : Nat) : Prop := ∃ e t dp xs, ob o = some (.rows e t dp xs)
theorem msO_rows {ob : Nat → Option Ob} {s : S0} {c : C} (h : msP ob s c) : ∀ o ∈ msO s c, isRows ob o := by
  intro o ho
  cases s with
  | own e t dp xs =>
    cases c with
    | rf o' r =>
      cases r with
      | ar => simp [msO] at ho; subst ho; exact ⟨e, t, dp, xs, h⟩
      | _ => exact h.elim
    | _ => simp [msO] at ho
  | d t x => cases c <;> simp [msO] at ho
  | any => cases c <;> simp [msO] at ho
theorem msOs_rows {ob : Nat → Option Ob} : ∀ {ss : List S0} {cs : List C}, msPs ob ss cs → ∀ o ∈ msOs ss cs, isRows ob o
  | [], [], _, o, ho => by simp [msOs] at ho
  | s :: ss, c :: cs, h, o, ho => by
    rcases List.mem_append.1 ho with ho | ho
    · exact msO_rows h.1 o ho
    · exact msOs_rows h.2 o ho
  | [], _ :: _, h, _, _ => h.elim
  | _ :: _, [], h, _, _ => h.elim
theorem agO_rows {ob : Nat → Option Ob} : ∀ {ss ss' : List S0} {id : Nat}, agP ob id ss ss' → ∀ o ∈ agO id ss', isRows ob o
  | [], [], _, _, o, ho => by simp [agO] at ho
  | s :: ss, .any :: ss', id, h, o, ho => by
    have h' : agP ob (id + 1) ss ss' := by cases s <;> exact h
    have ho' : o ∈ agO (id + 1) ss' := by simpa [agO] using ho
    exact agO_rows h' o ho'
  | .own .. :: ss, .own e t dp xs :: ss', id, h, o, ho => by
    rcases List.mem_cons.1 ho with rfl | ho
    · exact ⟨e, t, dp, xs, h.1⟩
    · exact agO_rows h.2 o ho
  | .d _ _ :: _, .own .. :: _, _, h, _, _ => h.elim
  | .any :: _, .own .. :: _, _, h, _, _ => h.elim
  | s :: _, .d _ _ :: _, _, h, _, _ => by cases s <;> exact h.elim
  | [], _ :: _, _, h, _, _ => h.elim
  | s :: _, [], _, h, _, _ => by cases s <;> exact h.elim
theorem PoO_rows {ob : Nat → Option Ob} {p : Nat} {a b : SA} (h : PoP ob p a b) : ∀ o ∈ PoO ob p b, isRows ob o := by
  intro o ho
  cases a <;> cases b <;> first | exact h.elim | skip
  · exact agO_rows h o ho
  · exact agO_rows h o ho
  · obtain ⟨_, h⟩ := h
    simp only [PoO] at ho
    split at h
    · rename_i cs hq
      rw [hq] at ho
      exact msOs_rows h o ho
    · exact h.elim
  · rename_i s
    cases s with
    | any => simp [PoO, agO] at ho
    | _ => exact h.elim
  · rename_i s
    cases s with
    | any => simp [PoO, agO] at ho
    | _ => exact h.elim
  · rename_i s
    cases s with
    | any => simp [PoO, agO] at ho
    | _ => exact h.elim
theorem PoOs_rows {ob : Nat → Option Ob} : ∀ {as bs : List SA} {p : Nat}, PoPs ob p as bs → ∀ o ∈ PoOs ob p bs, isRows ob o
  | [], [], _, _, o, ho => by simp [PoOs] at ho
  | a :: as, b :: bs, p, h, o, ho => by
    rcases List.mem_append.1 ho with ho | ho
    · exact PoO_rows h.1 o ho
    · exact PoOs_rows h.2 o ho
  | [], _ :: _, _, h, _, _ => h.elim
  | _ :: _, [], _, h, _, _ => h.elim
theorem RsO_rows {ob : Nat → Option Ob} {res : RS} {rs : List (Bool × List C)} (h : RsP ob res rs) : ∀ o ∈ RsO res rs, isRows ob o := by
  intro o ho
  cases res with
  | one s =>
    match rs, h, ho with
    | [(false, [c])], h, ho => exact msO_rows h o ho
  | ag ss =>
    match rs, h, ho with
    | [(true, cs)], h, ho => exact msOs_rows h o ho
  | tu xs =>
    have key : ∀ (xs : List (Bool × List S0)) (rs : List (Bool × List C)), All2 (fun (x : Bool × List S0) (r : Bool × List C) => x.1 = r.1 ∧ msPs ob x.2 r.2) xs rs → msPs ob (xs.flatMap (·.2)) (rs.flatMap (·.2)) := by
      intro xs
      induction xs with
      | nil => intro rs h; cases rs with
        | nil => trivial
        | cons => exact h.elim
      | cons x xs ih => intro rs h; cases rs with
        | nil => exact h.elim
        | cons r rs => exact (msPs_app h.1.2 (ih rs h.2)).1
    exact msOs_rows (key _ _ h.2) o ho
/-- Each box that was handed in is still told of. -/
theorem PoPs_box {ob : Nat → Option Ob} {w : World} {I : Nat → Prop} : ∀ {as bs : List SA} {us : List Value} {L : List Nat} {B : List (Nat × Nat × Nat)} {p : Nat}, PoPs ob p as bs → ARs w I as us L B → ∀ r ∈ B, ∃ i, bxAt as[i]? us[i]? = some (r.1, r.2.1) ∧ ∃ cs, ob (16 * (p + i)) = some (.cells cs)
  | [], [], us, L, B, p, _, h, r, hr => by
    cases us with
    | nil => rw [h.2] at hr; simp at hr
    | cons => exact h.elim
  | [], _ :: _, _, _, _, _, h, _, _, _ => h.elim
  | _ :: _, [], _, _, _, _, h, _, _, _ => h.elim
  | a :: as, b :: bs, [], _, _, _, _, h, _, _ => h.elim
  | a :: as, b :: bs, u :: us, L, B, p, h, hs, r, hr => by
    obtain ⟨L1, L2, B1, B2, rfl, rfl, h1, h2⟩ := hs
    rcases List.mem_append.1 hr with hr | hr
    · cases a with
      | c s => rw [h1.1] at hr; simp at hr
      | ag ss => rw [h1.1] at hr; simp at hr
      | sem φ => rw [h1.2.1] at hr; simp at hr
      | pd t x => rw [h1.2.1] at hr; simp at hr
      | nl => rw [h1.2.1] at hr; simp at hr
      | bx ss =>
        obtain ⟨b0, f, cs, rfl, rfl, _⟩ := h1
        simp at hr
        subst hr
        refine ⟨0, rfl, ?_⟩
        cases b with
        | bx ss' =>
          obtain ⟨_, hq⟩ := h.1
          split at hq
          · rename_i cs hq'; exact ⟨cs, hq'⟩
          · exact hq.elim
        | _ => exact h.1.elim
    · obtain ⟨i, q1, q2⟩ := PoPs_box h.2 h2 r hr
      exact ⟨i + 1, by simpa using q1, by rw [show p + (i + 1) = p + 1 + i by omega]; exact q2⟩

theorem W_weakQ [Glob] {c : Code} {Q : Exit → St → Prop} (h : W P c (fun e σ => ∃ σ', Wk σ σ' ∧ Q e σ') σ) : W P c Q σ := by
  intro K w I g tm hi
  refine wp_mono (h K w I g tm hi) ?_
  rintro e a w' ⟨hd, σ1, I1, g1, ⟨σ2, hw, q⟩, r⟩
  obtain ⟨I2, g2, r2⟩ := hw K w' I1 g1 a.tmps r
  exact ⟨hd, σ2, I2, g2, q, r2⟩

/-- A function by its body. -/
theorem FnC_of [Glob] {f : FuncId} {fn : Func} {c : Code} {args post : List SA} {res : RS} (hf : P.funcs[f]? = some fn) (hb : fn.body = some c) (hn : Nat.ble args.length fn.ntmps = true) (hsz : szsOK args = true) (hW : W P c (EndQ P fn args post res) (St.enter fn.ntmps args)) : FnC P f args post res := by
  intro w I vals L B hI hargs hnd hfr
  refine calls_of_wp hf hb ?_
  obtain ⟨g, hinv⟩ := Inv.enter (n := fn.ntmps) hI.1 hI.2 hargs hnd hfr hsz (Nat.le_of_ble_eq_true hn)
  have e0 : vals.toArray ++ Array.replicate (fn.ntmps - vals.toArray.size) undef = vals.toArray ++ Array.replicate (fn.ntmps - vals.length) undef := by simp
  rw [e0]
  refine wp_mono (W_weakQ hW _ w I _ _ hinv) ?_
  rintro e ⟨tm, df⟩ w' ⟨hd, σ', I', g', ⟨he, hpo, rs, hrs, hrp, hnd'⟩, hi⟩
  obtain rfl : df = [] := hd
  have main : bodyPost P fn (FnPost args post res w I vals L B) .ret ⟨tm, []⟩ w' := by
    obtain ⟨v, hv, hr0⟩ := run_results (P := P) hi hrs hrp
    have hpost := PoPs_ok (p := 0) hi hpo hargs (fun i => by show KE args vals _ = _; unfold KE; rw [if_pos (by omega), show 16 * (0 + i) / 16 = i by omega]) (fun i j hj => by
      show KB args vals _ = _
      unfold KB
      rw [if_neg (by omega), show (16 * (0 + i) + 1 + j) / 16 = i by omega, show (16 * (0 + i) + 1 + j) % 16 - 1 = j by omega]) (Bool.and_eq_true_iff.1 hsz).2
    refine ⟨rfl, v, hv, v, rfl, ⟨hi.fr.os, hi.fr.tape, hi.fr.output, hi.fr.size, fun b h1 h2 h3 => hi.fr.old b h1 h2 ?_, fun b h1 h2 f h3 => hi.fr.part b h1 h2 f ?_, fun b h1 h2 f => hi.fr.froz b h1 h2 f⟩, I', _, _, hi.imm0, fun b hb => ⟨(hi.immX b hb).1, (hi.immX b hb).2⟩, hpost, hr0, ?_, ?_⟩
    · rintro o ⟨r, hr, hr1, _⟩
      exact h3 (List.mem_map.2 ⟨r, hr, hr1⟩)
    · rintro ⟨r, hr, hr1⟩
      exact h3 r hr hr1
    · rw [← List.flatMap_append]
      exact flat_nodup hi.dis hi.nod hnd'
    · intro b hb
      rw [← List.flatMap_append] at hb
      obtain ⟨o, ho, hbo⟩ := List.mem_flatMap.1 hb
      have hrows : isRows σ'.objs o := by
        rcases List.mem_append.1 ho with ho | ho
        · exact PoOs_rows hpo o ho
        · exact RsO_rows hrp o ho
      obtain ⟨e, t, dp, xs, hq⟩ := hrows
      obtain ⟨o1, o2, _⟩ := hi.own o b hbo
      refine ⟨o1, fun hbB => ?_, o2, fun hlt => hi.own_mine hq (fun _ h => by cases h) hbo hlt⟩
      obtain ⟨r, hr, rfl⟩ := List.mem_map.1 hbB
      obtain ⟨i, q1, cs, q2⟩ := PoPs_box (p := 0) hpo hargs r hr
      have hE : (KOf w I args vals L B).E (16 * (0 + i)) = some (r.1, r.2.1) := by
        show KE args vals _ = _
        unfold KE
        rw [if_pos (by omega), show 16 * (0 + i) / 16 = i by omega]; exact q1
      have ha := ((hi.ext _ _ hE).2 _ q2).1
      have hL := (hi.cells q2).1
      rw [ha] at hL
      have : o = 16 * (0 + i) := hi.dis _ _ r.1 hbo (by rw [hL]; simp)
      rw [this, q2] at hq
      cases hq
  cases e <;> first | exact main | cases he
end Go.LX
