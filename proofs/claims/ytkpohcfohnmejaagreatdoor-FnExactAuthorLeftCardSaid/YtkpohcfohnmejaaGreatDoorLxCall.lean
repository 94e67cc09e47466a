/- A part of the proof of the statement in the row text. -/
import Derived.Test.YtkpohcfohnmejaaGreatDoorLxFn
/- A function by its body. -/
set_option linter.unusedVariables false
set_option linter.unusedSimpArgs false
namespace Go.LX

variable {P : Program} {σ : St}

theorem flat_nodup {g : Gh} (hd : ∀ o o' b, b ∈ g.L o → b ∈ g.L o' → o = o') (hn : ∀ o, (g.L o).Nodup) : ∀ {os : List Nat}, os.Nodup → (os.flatMap g.L).Nodup
  | [], _ => List.nodup_nil
  | o :: os, h => by
    rw [List.nodup_cons] at h
    rw [List.flatMap_cons, List.nodup_append]
    refine ⟨hn o, flat_nodup hd hn h.2, ?_⟩
    rintro a ha b hb rfl
    obtain ⟨o', ho', hb'⟩ := List.mem_flatMap.1 hb
    exact h.1 (hd o o' a ha hb' ▸ ho')
def isRows (ob : Nat → Option Ob) (o : Nat) : Prop := ∃ e t dp xs, ob o = some (.rows e t dp xs)
theorem msO_rows {ob : Nat → Option Ob} {s : S0} {c : C} (h : msP ob s c) : ∀ o ∈ msO s c, isRows ob o := by
  intro o ho
  cases s with
  | own e t dp xs =>
    cases c with
    | rf o' r =>
      cases r with
      | ar => simp [msO] at ho; subst ho; exact ⟨e, t, dp, xs, h⟩
      | _ => exact h.elim
    | _ => simp [msO] at ho
  | d t x => cases c <;> simp [msO] at ho
  | any => cases c <;> simp [msO] at ho
theorem msOs_rows {ob : Nat → Option Ob} : ∀ {ss : List S0} {cs : List C}, msPs ob ss cs → ∀ o ∈ msOs ss cs, isRows ob o
  | [], [], _, o, ho => by simp [msOs] at ho
  | s :: ss, c :: cs, h, o, ho => by
    rcases List.mem_append.1 ho with ho | ho
    · exact msO_rows h.1 o ho
    · exact msOs_rows h.2 o ho
  | [], _ :: _, h, _, _ => h.elim
  | _ :: _, [], h, _, _ => h.elim
theorem agO_rows {ob : Nat → Option Ob} : ∀ {ss ss' : List S0} {id : Nat}, agP ob id ss ss' → ∀ o ∈ agO id ss', isRows ob o
  | [], [], _, _, o, ho => by simp [agO] at ho
  | s :: ss, .any :: ss', id, h, o, ho => by
    have h' : agP ob (id + 1) ss ss' := by cases s <;> exact h
    have ho' : o ∈ agO (id + 1) ss' := by simpa [agO] using ho
    exact agO_rows h' o ho'
  | .own .. :: ss, .own e t dp xs :: ss', id, h, o, ho => by
    rcases List.mem_cons.1 ho with rfl | ho
    · exact ⟨e, t, dp, xs, h.1⟩
    · exact agO_rows h.2 o ho
  | .d _ _ :: _, .own .. :: _, _, h, _, _ => h.elim
  | .any :: _, .own .. :: _, _, h, _, _ => h.elim
  | s :: _, .d _ _ :: _, _, h, _, _ => by cases s <;> exact h.elim
  | [], _ :: _, _, h, _, _ => h.elim
  | s :: _, [], _, h, _, _ => by cases s <;> exact h.elim
theorem PoO_rows {ob : Nat → Option Ob} {p : Nat} {a b : SA} (h : PoP ob p a b) : ∀ o ∈ PoO ob p b, isRows ob o := by
  intro o ho
  cases a <;> cases b <;> first | exact h.elim | skip
  · exact agO_rows h o ho
  · exact agO_rows h o ho
  · obtain ⟨_, h⟩ := h
    simp only [PoO] at ho
    split at h
    · rename_i cs hq
      rw [hq] at ho
      exact msOs_rows h o ho
    · exact h.elim
  · rename_i s
    cases s with
    | any => simp [PoO, agO] at ho
    | _ => exact h.elim
  · rename_i s
    cases s with
    | any => simp [PoO, agO] at ho
    | _ => exact h.elim
  · rename_i s
    cases s with
    | any => simp [PoO, agO] at ho
    | _ => exact h.elim
theorem PoOs_rows {ob : Nat → Option Ob} : ∀ {as bs : List SA} {p : Nat}, PoPs ob p as bs → ∀ o ∈ PoOs ob p bs, isRows ob o
  | [], [], _, _, o, ho => by simp [PoOs] at ho
  | a :: as, b :: bs, p, h, o, ho => by
    rcases List.mem_append.1 ho with ho | ho
    · exact PoO_rows h.1 o ho
    · exact PoOs_rows h.2 o ho
  | [], _ :: _, _, h, _, _ => h.elim
  | _ :: _, [], _, h, _, _ => h.elim
theorem RsO_rows {ob : Nat → Option Ob} {res : RS} {rs : List (Bool × List C)} (h : RsP ob res rs) : ∀ o ∈ RsO res rs, isRows ob o := by
  intro o ho
  cases res with
  | one s =>
    match rs, h, ho with
    | [(false, [c])], h, ho => exact msO_rows h o ho
  | ag ss =>
    match rs, h, ho with
    | [(true, cs)], h, ho => exact msOs_rows h o ho
  | tu xs =>
    have key : ∀ (xs : List (Bool × List S0)) (rs : List (Bool × List C)), All2 (fun (x : Bool × List S0) (r : Bool × List C) => x.1 = r.1 ∧ msPs ob x.2 r.2) xs rs → msPs ob (xs.flatMap (·.2)) (rs.flatMap (·.2)) := by
      intro xs
      induction xs with
      | nil => intro rs h; cases rs with
        | nil => trivial
        | cons => exact h.elim
      | cons x xs ih => intro rs h; cases rs with
        | nil => exact h.elim
        | cons r rs => exact (msPs_app h.1.2 (ih rs h.2)).1
    exact msOs_rows (key _ _ h.2) o ho
/-- Each box that was handed in is still told of. -/
theorem PoPs_box {ob : Nat → Option Ob} {w : World} {I : Nat → Prop} : ∀ {as bs : List SA} {us : List Value} {L : List Nat} {B : List (Nat × Nat × Nat)} {p : Nat}, PoPs ob p as bs → ARs w I as us L B → ∀ r ∈ B, ∃ i, bxAt as[i]? us[i]? = some (r.1, r.2.1) ∧ ∃ cs, ob (16 * (p + i)) = some (.cells cs)
  | [], [], us, L, B, p, _, h, r, hr => by
    cases us with
    | nil => rw [h.2] at hr; simp at hr
    | cons => exact h.elim
  | [], _ :: _, _, _, _, _, h, _, _, _ => h.elim
  | _ :: _, [], _, _, _, _, h, _, _, _ => h.elim
  | a :: as, b :: bs, [], _, _, _, _, h, _, _ => h.elim
  | a :: as, b :: bs, u :: us, L, B, p, h, hs, r, hr => by
    obtain ⟨L1, L2, B1, B2, rfl, rfl, h1, h2⟩ := hs
    rcases List.mem_append.1 hr with hr | hr
    · cases a with
      | c s => rw [h1.1] at hr; simp at hr
      | ag ss => rw [h1.1] at hr; simp at hr
      | sem φ => rw [h1.2.1] at hr; simp at hr
      | pd t x => rw [h1.2.1] at hr; simp at hr
      | nl => rw [h1.2.1] at hr; simp at hr
      | bx ss =>
        obtain ⟨b0, f, cs, rfl, rfl, _⟩ := h1
        simp at hr
        subst hr
        refine ⟨0, rfl, ?_⟩
        cases b with
        | bx ss' =>
          obtain ⟨_, hq⟩ := h.1
          split at hq
          · rename_i cs hq'; exact ⟨cs, hq'⟩
          · exact hq.elim
        | _ => exact h.1.elim
    · obtain ⟨i, q1, q2⟩ := PoPs_box h.2 h2 r hr
      exact ⟨i + 1, by simpa using q1, by rw [show p + (i + 1) = p + 1 + i by omega]; exact q2⟩

theorem W_weakQ [Glob] {c : Code} {Q : Exit → St → Prop} (h : W P c (fun e σ => ∃ σ', Wk σ σ' ∧ Q e σ') σ) : W P c Q σ := by
  intro K w I g tm hi
  refine wp_mono (h K w I g tm hi) ?_
  rintro e a w' ⟨hd, σ1, I1, g1, ⟨σ2, hw, q⟩, r⟩
  obtain ⟨I2, g2, r2⟩ := hw K w' I1 g1 a.tmps r
  exact ⟨hd, σ2, I2, g2, q, r2⟩

/-- A function by its body. -/
theorem FnC_of [Glob] {f : FuncId} {fn : Func} {c : Code} {args post : List SA} {res : RS} (hf : P.funcs[f]? = some fn) (hb : fn.body = some c) (hn : Nat.ble args.length fn.ntmps = true) (hsz : szsOK args = true) (hW : W P c (EndQ P fn args post res) (St.enter fn.ntmps args)) : FnC P f args post res := by
  intro w I vals L B hI hargs hnd hfr
  refine calls_of_wp hf hb ?_
  obtain ⟨g, hinv⟩ := Inv.enter (n := fn.ntmps) hI.1 hI.2 hargs hnd hfr hsz (Nat.le_of_ble_eq_true hn)
  have e0 : vals.toArray ++ Array.replicate (fn.ntmps - vals.toArray.size) undef = vals.toArray ++ Array.replicate (fn.ntmps - vals.length) undef := by simp
  rw [e0]
  refine wp_mono (W_weakQ hW _ w I _ _ hinv) ?_
  rintro e ⟨tm, df⟩ w' ⟨hd, σ', I', g', ⟨he, hpo, rs, hrs, hrp, hnd'⟩, hi⟩
  obtain rfl : df = [] := hd
  have main : bodyPost P fn (FnPost args post res w I vals L B) .ret ⟨tm, []⟩ w' := by
    obtain ⟨v, hv, hr0⟩ := run_results (P := P) hi hrs hrp
    have hpost := PoPs_ok (p := 0) hi hpo hargs (fun i => by show KE args vals _ = _; unfold KE; rw [if_pos (by omega), show 16 * (0 + i) / 16 = i by omega]) (fun i j hj => by
      show KB args vals _ = _
      unfold KB
      rw [if_neg (by omega), show (16 * (0 + i) + 1 + j) / 16 = i by omega, show (16 * (0 + i) + 1 + j) % 16 - 1 = j by omega]) (Bool.and_eq_true_iff.1 hsz).2
    refine ⟨rfl, v, hv, v, rfl, ⟨hi.fr.os, hi.fr.tape, hi.fr.output, hi.fr.size, fun b h1 h2 h3 => hi.fr.old b h1 h2 ?_, fun b h1 h2 f h3 => hi.fr.part b h1 h2 f ?_, fun b h1 h2 f => hi.fr.froz b h1 h2 f⟩, I', _, _, hi.imm0, fun b hb => ⟨(hi.immX b hb).1, (hi.immX b hb).2⟩, hpost, hr0, ?_, ?_⟩
    · rintro o ⟨r, hr, hr1, _⟩
      exact h3 (List.mem_map.2 ⟨r, hr, hr1⟩)
    · rintro ⟨r, hr, hr1⟩
      exact h3 r hr hr1
    · rw [← List.flatMap_append]
      exact flat_nodup hi.dis hi.nod hnd'
    · intro b hb
      rw [← List.flatMap_append] at hb
      obtain ⟨o, ho, hbo⟩ := List.mem_flatMap.1 hb
      have hrows : isRows σ'.objs o := by
        rcases List.mem_append.1 ho with ho | ho
        · exact PoOs_rows hpo o ho
        · exact RsO_rows hrp o ho
      obtain ⟨e, t, dp, xs, hq⟩ := hrows
      obtain ⟨o1, o2, _⟩ := hi.own o b hbo
      refine ⟨o1, fun hbB => ?_, o2, fun hlt => hi.own_mine hq (fun _ h => by cases h) hbo hlt⟩
      obtain ⟨r, hr, rfl⟩ := List.mem_map.1 hbB
      obtain ⟨i, q1, cs, q2⟩ := PoPs_box (p := 0) hpo hargs r hr
      have hE : (KOf w I args vals L B).E (16 * (0 + i)) = some (r.1, r.2.1) := by
        show KE args vals _ = _
        unfold KE
        rw [if_pos (by omega), show 16 * (0 + i) / 16 = i by omega]; exact q1
      have ha := ((hi.ext _ _ hE).2 _ q2).1
      have hL := (hi.cells q2).1
      rw [ha] at hL
      have : o = 16 * (0 + i) := hi.dis _ _ r.1 hbo (by rw [hL]; simp)
      rw [this, q2] at hq
      cases hq
  cases e <;> first | exact main | cases he
end Go.LX

/- Calls of functions that a contract tells of: those handed plain data alone. -/
set_option linter.unusedVariables false
set_option linter.unusedSimpArgs false
namespace Go.LX

variable {P : Program} {σ : St}

/-! ### Results -/
def svTu : Nat → List (Bool × List S0) → List (Bool × List C)
  | _, [] => []
  | id, x :: r => (x.1, enL id x.2) :: svTu (id + x.2.length) r
def RS.svN (id : Nat) : RS → SV
  | .one s => .one (cellE id s)
  | .ag ss => .ag (enL id ss)
  | .tu xs => .tu (svTu id xs)
theorem enL_app : ∀ {a b : List S0} {id : Nat}, enL id (a ++ b) = enL id a ++ enL (id + a.length) b
  | [], b, id => by simp [enL]
  | s :: a, b, id => by simp [enL, enL_app (a := a) (b := b) (id := id + 1), Nat.add_assoc, Nat.add_comm 1]
theorem svTu_cells : ∀ {xs : List (Bool × List S0)} {id : Nat}, (svTu id xs).flatMap (·.2) = enL id (xs.flatMap (·.2))
  | [], _ => rfl
  | x :: xs, id => by simp [svTu, enL_app, svTu_cells (xs := xs) (id := id + x.2.length)]
theorem RS.svN_cells {id : Nat} {r : RS} : (r.svN id).cells = enL id r.cells := by
  cases r with
  | one s => rfl
  | ag ss => rfl
  | tu xs => exact svTu_cells
theorem shape_tu {v : Value} : ∀ {xs : List (Bool × List S0)} {id : Nat} {vs : List Value}, All2 (fun (x : Bool × List C) v => if x.1 = true then AggOK x.2.length v else v.oneCell' = true ∧ x.2.length = 1) (xs.map fun x => (x.1, x.2.map fun _ => C.any)) vs →
    All2 (fun (x : Bool × List C) v => if x.1 = true then AggOK x.2.length v else v.oneCell' = true ∧ x.2.length = 1) (svTu id xs) vs
  | [], _, [], _ => trivial
  | x :: xs, id, v :: vs, h => by
    refine ⟨?_, shape_tu (v := v) h.2⟩
    have := h.1
    simpa [enL_len] using this
  | [], _, _ :: _, h => h.elim
  | _ :: _, _, [], h => h.elim
theorem RS.svN_shape {id : Nat} {r : RS} {v : Value} (h : ShapeOK r.sv v) : ShapeOK (r.svN id) v := by
  cases r with
  | one s => exact h
  | ag ss => show AggOK (enL id ss).length v; rw [enL_len]; have h : AggOK (ss.map fun _ => C.any).length v := h; simpa using h
  | tu xs =>
    obtain ⟨vs, e, h⟩ := h
    exact ⟨vs, e, shape_tu (v := v) h⟩
/-- n numbers, from b on, that no object has. -/
def freeR (ob : Nat → Option Ob) : Nat → Nat → Bool
  | 0, b => Nat.ble 1000 b
  | n + 1, b => isNew ob b && freeR ob n (b + 1)
theorem freeR_ok {ob : Nat → Option Ob} : ∀ {n b : Nat}, freeR ob n b = true → 1000 ≤ b ∧ ∀ k, b ≤ k → k < b + n → ob k = none
  | 0, b, h => ⟨Nat.le_of_ble_eq_true h, fun k h1 h2 => by omega⟩
  | n + 1, b, h => by
    obtain ⟨h1, h2⟩ := Bool.and_eq_true_iff.1 h
    obtain ⟨q1, q2⟩ := isNew_ok h1
    obtain ⟨_, r⟩ := freeR_ok h2
    refine ⟨q2, fun k k1 k2 => ?_⟩
    by_cases e : k = b
    · rw [e]; exact q1
    · exact r k (by omega) (by omega)
def newR' (ob : Nat → Option Ob) (n : Nat) : Nat → Nat → Option Nat
  | 0, _ => none
  | f + 1, b => match freeR ob n b with
    | true => some b
    | false => newR' ob n f (b + n + 1)
/-- The first number of what a call makes. -/
def newR (ob : Nat → Option Ob) (d : Option Nat) (n : Nat) : Option Nat := newR' ob n 8 (1000 * (d.getD 999 + 1))
theorem newR_ok {ob : Nat → Option Ob} {d : Option Nat} {n id : Nat} (h : newR ob d n = some id) : freeR ob n id = true := by
  have key : ∀ {f b : Nat}, newR' ob n f b = some id → freeR ob n id = true := by
    intro f
    induction f with
    | zero => intro b h; cases h
    | succ f ih =>
      intro b h
      unfold newR' at h
      split at h
      · rename_i hb; cases h; exact hb
      · exact ih h
  exact key h
def St.putD (σ : St) (d : Option Nat) (s : SV) : St := match d with
  | some t => σ.put t s
  | none => σ
def dstB (n : Nat) : Option Nat → Bool
  | some t => Nat.blt t n
  | none => true

section
variable {K : Ctx} {w w' : World} {I I' : Nat → Prop} {g : Gh} {tm : Array Value}
theorem Inv.cellsN [Glob] (hi : Inv K w I g σ tm) {ss : List S0} {us : List Value} {L : List Nat} {id : Nat} (h : SRs w I ss us L) (hnd : L.Nodup) (hf : ∀ b ∈ L, Free K I g b) (hid : freeR σ.objs ss.length id = true) :
    ∃ g', Inv K w I g' (enC id ss σ) tm ∧ (∀ b, Free K I g b → b ∉ L → Free K I g' b) ∧ (∀ (j : Nat) (c : C), (enL id ss)[j]? = some c → ∃ u, us[j]? = some u ∧ u.oneCell' = true ∧ CR w I g' (enC id ss σ).objs c u) ∧ (∀ c u, CR w I g σ.objs c u → CR w I g' (enC id ss σ).objs c u) ∧
      (enC id ss σ).n = σ.n ∧ (∀ k, k < id ∨ id + ss.length ≤ k → (enC id ss σ).objs k = σ.objs k ∧ g'.addr k = g.addr k) ∧ us.length = ss.length := by
  obtain ⟨h1, h2⟩ := freeR_ok hid
  obtain ⟨g', r1, r2, r3, r4, r5, r6, r7, r8⟩ := enC_ok (id := id) hi h hnd hf fun k k1 k2 => ⟨h2 k k1 k2, (hi.noE' (by omega)).1, fun v hv => absurd hv ((hi.noE' (by omega)).2 v)⟩
  exact ⟨g', r1, fun b hb hn => ⟨hb.i, r2 b hb.l hn, hb.m⟩, r4, r3, r6, r7, r8⟩
/-- The results are told of. -/
theorem Inv.res [Glob] (hi : Inv K w I g σ tm) {res : RS} {v : Value} {L : List Nat} {id : Nat} {d : Option Nat} (h : RR0 w I res v L) (hnd : L.Nodup) (hf : ∀ b ∈ L, Free K I g b) (hid : freeR σ.objs res.cells.length id = true) (hd : dstB σ.n d = true) :
    ∃ g', Inv K w I g' ((enC id res.cells σ).putD d (res.svN id)) (match d with | some t => tm.setIfInBounds t v | none => tm) := by
  obtain ⟨g', r1, _, r2, _, r3, _⟩ := hi.cellsN h.2 hnd hf hid
  refine ⟨g', ?_⟩
  cases d with
  | none => exact r1
  | some t =>
    refine r1.put (by rw [r3]; exact Nat.le_of_ble_eq_true hd) (RS.svN_shape h.1) fun i c hc => ?_
    rw [RS.svN_cells] at hc
    obtain ⟨u, q1, _, q2⟩ := r2 i c hc
    exact ⟨u, q1, q2⟩

/-! ### What reads nothing that it does not own -/
def S0.closed : S0 → Bool
  | .d t _ => t.flat
  | .own _ t dp _ => dp || t.flat
  | .any => true
theorem OA.free {dp : Bool} {e : TypeId} {t : Ty} {xs : List t.T} {u : Value} {L : List Nat} (hk : (dp || t.flat) = true) (h : OA w I dp e t xs u L) : OA w I' dp e t xs u L := by
  obtain ⟨vs, L', ho, hr, rfl⟩ := h
  refine ⟨vs, L', ho, hr.mono fun x u L1 _ hb h => ?_, rfl⟩
  cases dp with
  | true => exact h
  | false => exact ⟨h.1, RT.free hk h.2⟩
theorem SR.free {s : S0} {u : Value} {L : List Nat} (hk : s.closed = true) (h : SR w I s u L) : SR w I' s u L := by
  cases s with
  | d t x => exact ⟨h.1, RT.free hk h.2⟩
  | own e t dp xs => exact OA.free hk h
  | any => exact h
theorem SRs.free {ss : List S0} {us : List Value} {L : List Nat} (hk : ss.all S0.closed = true) (h : SRs w I ss us L) : SRs w I' ss us L :=
  h.mono fun x u L1 hx _ h => by obtain ⟨v, e, h⟩ := h; exact ⟨v, e, h.free (List.all_eq_true.1 hk x hx)⟩

/-! ### What is handed over: data -/
def asA (ob : Nat → Option Ob) : (t : Ty) → C → Option t.T
  | .sl e, .rf o r => match slC ob (.rf o r) with
    | some ⟨e', xs⟩ => match decEq e' e with
      | isTrue h => castO h xs
      | isFalse _ => none
    | none => none
  | t, c => asT ob t c
theorem asA_ok [Glob] (hi : Inv K w I g σ tm) {t : Ty} {c : C} {x : t.T} {u : Value} (h : CR w I g σ.objs c u) (hc : asA σ.objs t c = some x) : RT w (fun b => I b ∨ b ∈ g.L c.oid) t x [u] := by
  unfold asA at hc
  split at hc
  · split at hc
    · rename_i hs
      split at hc
      · rename_i hk _; subst hk; obtain rfl := Option.some.inj hc; exact CR.slC hi h hs
      · cases hc
    · cases hc
  · exact (asT_ok hi h hc).sub fun b hb => .inl hb
/-- Cells as data, wherever it lies. -/
def mkTA (ob : Nat → Option Ob) : (t : Ty) → List C → Option t.T
  | .pr a b, cs => match mkTA ob a (cs.take a.w), mkTA ob b (cs.drop a.w) with
    | some x, some y => some (x, y)
    | _, _ => none
  | .un, [] => some ()
  | .un, _ :: _ => none
  | .i k, [c] => asA ob (.i k) c
  | .u8, [c] => asA ob .u8 c
  | .bo, [c] => asA ob .bo c
  | .st, [c] => asA ob .st c
  | .sl e, [c] => asA ob (.sl e) c
  | _, _ => none
def mkRowsA (ob : Nat → Option Ob) (t : Ty) : Nat → List C → Option (List t.T)
  | 0, [] => some []
  | 0, _ :: _ => none
  | n + 1, cs => match mkTA ob t (cs.take t.w), mkRowsA ob t n (cs.drop t.w) with
    | some x, some xs => some (x :: xs)
    | _, _ => none
def asAA (ob : Nat → Option Ob) : (t : Ty) → C → Option t.T
  | .sl e, .rf o (.as wd n _) => match ob o with
    | some (.cells cs) => bif Nat.beq wd e.w then mkRowsA ob e n cs else none
    | _ => none
  | t, c => asA ob t c
theorem mkTA_ok [Glob] (hi : Inv K w I g σ tm) {S : Nat → Prop} (hS : ∀ b, I b → S b) (hA : ∀ o b, b ∈ g.L o → S b) : ∀ {t : Ty} {cs : List C} {x : t.T} {us : List Value}, mkTA σ.objs t cs = some x → us.length = cs.length → (∀ (j : Nat) (c : C), cs[j]? = some c → ∃ u, us[j]? = some u ∧ CR w I g σ.objs c u) → RT w S t x us := by
  have one : ∀ {t : Ty} {c : C} {x : t.T} {us : List Value}, asA σ.objs t c = some x → us.length = [c].length → (∀ (j : Nat) (c' : C), [c][j]? = some c' → ∃ u, us[j]? = some u ∧ CR w I g σ.objs c' u) → RT w S t x us := by
    intro t c x us h hl hc
    obtain ⟨u, hu, hr⟩ := hc 0 c rfl
    match us, hl with
    | [v], _ =>
      simp at hu
      subst hu
      exact (asA_ok hi hr h).sub fun b hb => hb.elim (hS b) (hA _ b)
  intro t
  induction t with
  | pr a b iha ihb =>
    intro cs x us h hl hc
    unfold mkTA at h
    split at h
    · rename_i x1 x2 h1 h2
      cases h
      refine ⟨us.take a.w, us.drop a.w, (List.take_append_drop _ _).symm, iha h1 (by simp [hl]) fun j c hj => ?_, ihb h2 (by simp [hl]) fun j c hj => ?_⟩
      · rw [List.getElem?_take] at hj ⊢
        split at hj
        · rename_i hlt; rw [if_pos hlt]; exact hc j c hj
        · cases hj
      · rw [List.getElem?_drop] at hj ⊢; exact hc _ c hj
    · cases h
  | un =>
    intro cs x us h hl hc
    cases cs with
    | nil => exact List.eq_nil_of_length_eq_zero hl
    | cons c cs => simp [mkTA] at h
  | i k => intro cs x us h hl hc; match cs, h, hl, hc with
    | [c], h, hl, hc => exact one h hl hc
  | u8 => intro cs x us h hl hc; match cs, h, hl, hc with
    | [c], h, hl, hc => exact one h hl hc
  | bo => intro cs x us h hl hc; match cs, h, hl, hc with
    | [c], h, hl, hc => exact one h hl hc
  | st => intro cs x us h hl hc; match cs, h, hl, hc with
    | [c], h, hl, hc => exact one h hl hc
  | sl e _ => intro cs x us h hl hc; match cs, h, hl, hc with
    | [c], h, hl, hc => exact one h hl hc
theorem mkRowsA_ok [Glob] (hi : Inv K w I g σ tm) {S : Nat → Prop} (hS : ∀ b, I b → S b) (hA : ∀ o b, b ∈ g.L o → S b) {t : Ty} : ∀ {n : Nat} {cs : List C} {xs : List t.T} {us : List Value}, mkRowsA σ.objs t n cs = some xs → us.length = cs.length → (∀ (j : Nat) (c : C), cs[j]? = some c → ∃ u, us[j]? = some u ∧ CR w I g σ.objs c u) →
    xs.length = n ∧ Rows (fun x us L => L = [] ∧ RT w S t x us) xs us []
  | 0, [], xs, us, h, hl, _ => by cases h; exact ⟨rfl, List.eq_nil_of_length_eq_zero hl, rfl⟩
  | 0, _ :: _, _, _, h, _, _ => by simp [mkRowsA] at h
  | n + 1, cs, xs, us, h, hl, hc => by
    unfold mkRowsA at h
    split at h
    · rename_i x xs' h1 h2
      cases h
      obtain ⟨q1, q2⟩ := mkRowsA_ok hi hS hA (us := us.drop t.w) h2 (by simp [hl]) fun j c hj => by rw [List.getElem?_drop] at hj ⊢; exact hc _ c hj
      refine ⟨by simp [q1], us.take t.w, us.drop t.w, [], [], (List.take_append_drop _ _).symm, rfl, ⟨rfl, mkTA_ok hi hS hA h1 (by simp [hl]) fun j c hj => ?_⟩, q2⟩
      rw [List.getElem?_take] at hj ⊢
      split at hj
      · rename_i hlt; rw [if_pos hlt]; exact hc j c hj
      · cases hj
    · cases h
theorem asAA_ok [Glob] (hi : Inv K w I g σ tm) {S : Nat → Prop} (hS : ∀ b, I b → S b) (hA : ∀ o b, b ∈ g.L o → S b) {t : Ty} {c : C} {x : t.T} {u : Value} (h : CR w I g σ.objs c u) (hc : asAA σ.objs t c = some x) : RT w S t x [u] := by
  unfold asAA at hc
  split at hc
  · rename_i e o wd n e'
    split at hc
    · rename_i cs hq
      cases hb : Nat.beq wd e.w with
      | false => rw [hb] at hc; cases hc
      | true =>
        rw [hb] at hc
        simp only [cond_true] at hc
        have hb := Nat.eq_of_beq_eq_true hb
        subst hb
        have h' : seeO w I (g.addr o) (g.base o) (g.L o) (σ.objs o) (.as e.w n e') u := h
        rw [hq] at h'
        obtain ⟨rfl, hcl, hml⟩ := h'
        obtain ⟨hL, hbx⟩ := hi.cells hq
        obtain ⟨us, hul, hus⟩ := agg_of (cs := cs) (b := (g.addr o).1) (f := (g.addr o).2) (w := w) (I := I) (g := g) (ob := σ.objs) (fun j c hj => by
          obtain ⟨v, h1, _, h3, _, h5⟩ := hbx j c hj
          exact ⟨v, h1, h3, h5⟩) cs.length (Nat.le_refl _)
        obtain ⟨q1, q2⟩ := mkRowsA_ok hi hS hA (us := us) hc hul fun j c hj => by
          have hlt : j < us.length := by rw [hul]; exact (List.getElem?_eq_some_iff.1 hj).1
          obtain ⟨_, _, c', k1, k2⟩ := hus j us[j] (List.getElem?_eq_getElem hlt)
          rw [hj] at k1
          cases k1
          exact ⟨_, List.getElem?_eq_getElem hlt, k2⟩
        refine ⟨some ⟨(g.addr o).1, (g.addr o).2, none⟩, n, by rw [q1], by rw [q1]; exact Nat.le_refl _, hml, fun i y hy => ?_⟩
        obtain ⟨u1, us', u2, L1, L0, L2, e1, _, e3, e4, _, ⟨_, hr⟩, _⟩ := q2.at (fun _ _ _ h => h.2.len) hy
        refine ⟨(g.addr o).1, (g.addr o).2, us', rfl, ⟨hA o _ (by rw [hL]; simp), fun j v hv => ?_⟩, hr⟩
        have hjl := (List.getElem?_eq_some_iff.1 hv).1
        have := (hus (i * e.w + j) v (by rw [e1, List.append_assoc, List.getElem?_append_right (by omega), e3, Nat.add_sub_cancel_left, List.getElem?_append_left hjl]; exact hv)).1
        rw [show (g.addr o).2 + i * e.w + j = (g.addr o).2 + (i * e.w + j) by omega]
        exact this
    · cases hc
  · exact (asA_ok hi h hc).sub fun b hb => hb.elim (hS b) (hA _ b)
def asX (a : Bool) (ob : Nat → Option Ob) (t : Ty) (c : C) : Option t.T := match a with
  | true => asAA ob t c
  | false => asT ob t c
theorem asX_ok [Glob] (hi : Inv K w I g σ tm) {a : Bool} {S : Nat → Prop} (hS : ∀ b, I b → S b) (hA : a = true → ∀ o b, b ∈ g.L o → S b) {t : Ty} {c : C} {x : t.T} {u : Value} (h : CR w I g σ.objs c u) (hc : asX a σ.objs t c = some x) : RT w S t x [u] := by
  cases a with
  | true => exact asAA_ok hi hS (hA rfl) h hc
  | false => exact (asT_ok hi h hc).sub hS
def cP (a : Bool) (ob : Nat → Option Ob) : S0 → C → Prop
  | .d t x, c => asX a ob t c = some x
  | .own _ _ _ xs, .nl => xs = []
  | .any, _ => True
  | _, _ => False
def cPs (a : Bool) (ob : Nat → Option Ob) : List S0 → List C → Prop
  | [], [] => True
  | s :: ss, c :: cs => cP a ob s c ∧ cPs a ob ss cs
  | _, _ => False
def dP (a : Bool) (ob : Nat → Option Ob) : SA → SV → Prop
  | .c s, .one c => cP a ob s c
  | .ag ss, .ag cs => cPs a ob ss cs
  | .sem φ, .one (.fc f []) => φ = clS f []
  | .sem φ, .one (.sem ψ) => φ = ψ
  | .nl, .one .nl => True
  | .pd t x, .one (.pd t' x' 0) => (⟨t', x'⟩ : Σ t : Ty, t.T) = ⟨t, x⟩
  | _, _ => False
def dPs (a : Bool) (ob : Nat → Option Ob) : List SA → List SV → Prop
  | [], [] => True
  | s :: ss, v :: vs => dP a ob s v ∧ dPs a ob ss vs
  | _, _ => False
theorem cP_ok [Glob] (hi : Inv K w I g σ tm) {a : Bool} {S : Nat → Prop} (hS : ∀ b, I b → S b) (hA : a = true → ∀ o b, b ∈ g.L o → S b) {s : S0} {c : C} {u : Value} (h : cP a σ.objs s c) (h1 : u.oneCell' = true) (hc : CR w I g σ.objs c u) : SR w S s u [] := by
  cases s with
  | d t x => exact ⟨rfl, asX_ok hi hS hA hc h⟩
  | any => exact ⟨rfl, h1⟩
  | own e t dp xs =>
    cases c with
    | nl =>
      have hx : xs = [] := h
      subst hx
      have hu : u = .slice none 0 0 := hc
      subst hu
      exact ⟨[], [], ownsR_nil w e t.w, ⟨rfl, rfl⟩, rfl⟩
    | _ => exact h.elim
theorem cPs_ok [Glob] (hi : Inv K w I g σ tm) {a : Bool} {S : Nat → Prop} (hS : ∀ b, I b → S b) (hA : a = true → ∀ o b, b ∈ g.L o → S b) : ∀ {ss : List S0} {cs : List C} {us : List Value}, cPs a σ.objs ss cs → us.length = cs.length → (∀ u ∈ us, u.oneCell' = true) → (∀ (j : Nat) (c : C), cs[j]? = some c → ∃ u, us[j]? = some u ∧ CR w I g σ.objs c u) → SRs w S ss us []
  | [], [], us, _, hl, _, _ => ⟨List.eq_nil_of_length_eq_zero hl, rfl⟩
  | s :: ss, c :: cs, [], _, hl, _, _ => by simp at hl
  | s :: ss, c :: cs, u :: us, h, hl, h1, hc => by
    obtain ⟨v, q1, q2⟩ := hc 0 c rfl
    simp at q1
    subst q1
    refine ⟨[u], us, [], [], rfl, rfl, ⟨u, rfl, cP_ok hi hS hA h.1 (h1 u (by simp)) q2⟩, cPs_ok hi hS hA h.2 (by simpa using hl) (fun v hv => h1 v (by simp [hv])) fun j c hj => ?_⟩
    obtain ⟨v, q1, q2⟩ := hc (j + 1) c (by simpa using hj)
    exact ⟨v, by simpa using q1, q2⟩
  | [], _ :: _, _, h, _, _, _ => h.elim
  | _ :: _, [], _, h, _, _, _ => h.elim
theorem dP_ok [Glob] (hi : Inv K w I g σ tm) {a : Bool} {S : Nat → Prop} (hS : ∀ b, I b → S b) (hA : a = true → ∀ o b, b ∈ g.L o → S b) {s : SA} {x : Operand} (h : dP a σ.objs s (σ.ev x)) : AR w S s (Act.eval ⟨tm, []⟩ x) [] [] := by
  obtain ⟨h1, h2⟩ := hi.ev x rfl
  generalize σ.ev x = v at h h1 h2
  generalize Act.eval ⟨tm, []⟩ x = u at h1 h2
  cases s with
  | c s =>
    cases v with
    | one c =>
      have h1 : u.oneCell' = true := h1
      obtain ⟨u', q1, q2⟩ := h2 0 c rfl
      rw [val_one h1] at q1
      simp at q1
      subst q1
      exact ⟨rfl, cP_ok hi hS hA h h1 q2⟩
    | _ => exact h.elim
  | ag ss =>
    cases v with
    | ag cs =>
      obtain ⟨us, rfl, e1, e2⟩ := h1
      exact ⟨rfl, us, rfl, cPs_ok hi hS hA h e1 e2 fun j c hj => by
        obtain ⟨u, q1, q2⟩ := h2 j c hj
        exact ⟨u, by simpa [valCells, Value.cells] using q1, q2⟩⟩
    | _ => exact h.elim
  | bx ss => cases v <;> exact h.elim
  | sem φ =>
    cases v with
    | one c =>
      have h1 : u.oneCell' = true := h1
      obtain ⟨u', q1, q2⟩ := h2 0 c rfl
      rw [val_one h1] at q1
      simp at q1
      subst q1
      cases c with
      | fc f caps =>
        cases caps with
        | nil =>
          have h : φ = clS f [] := h
          subst h
          obtain ⟨vs, rfl, ha⟩ := q2
          cases vs with
          | nil => exact ⟨rfl, rfl, rfl, clS_kept, [], rfl, trivial⟩
          | cons => exact ha.elim
        | cons => exact h.elim
      | sem ψ =>
        have h : φ = ψ := h
        subst h
        exact ⟨rfl, rfl, h1, q2.1, q2.1 _ _ _ _ _ hS (fun _ _ _ => rfl) q2.2⟩
      | _ => exact h.elim
    | _ => exact h.elim
  | nl =>
    cases v with
    | one c =>
      have h1 : u.oneCell' = true := h1
      obtain ⟨u', q1, q2⟩ := h2 0 c rfl
      rw [val_one h1] at q1
      simp at q1
      subst q1
      cases c with
      | nl => exact ⟨rfl, rfl, q2⟩
      | _ => exact h.elim
    | _ => exact h.elim
  | pd t x =>
    cases v with
    | one c =>
      have h1 : u.oneCell' = true := h1
      obtain ⟨u', q1, q2⟩ := h2 0 c rfl
      rw [val_one h1] at q1
      simp at q1
      subst q1
      cases c with
      | pd t' x' j =>
        cases j with
        | zero =>
          have h : (⟨t', x'⟩ : Σ t : Ty, t.T) = ⟨t, x⟩ := h
          cases h
          exact ⟨rfl, rfl, PD.kept q2 hS fun _ _ _ => rfl⟩
        | succ j => exact h.elim
      | _ => exact h.elim
    | _ => exact h.elim
theorem dPs_ok [Glob] (hi : Inv K w I g σ tm) {a : Bool} {S : Nat → Prop} (hS : ∀ b, I b → S b) (hA : a = true → ∀ o b, b ∈ g.L o → S b) : ∀ {ss : List SA} {xs : List Operand}, dPs a σ.objs ss (xs.map σ.ev) → ARs w S ss (xs.map (Act.eval ⟨tm, []⟩)) [] []
  | [], [], _ => ⟨rfl, rfl⟩
  | s :: ss, x :: xs, h => ⟨[], [], [], [], rfl, rfl, dP_ok hi hS hA h.1, dPs_ok hi hS hA h.2⟩
  | [], _ :: _, h => h.elim
  | _ :: _, [], h => h.elim

/-- What stays as it was is seen as it was. -/
theorem Inv.keepX [Glob] (h : Inv K w I g σ tm) {g' : Gh} {ob' : Nat → Option Ob} {x : Nat} (hI : ∀ b, I b → I' b ∧ ∀ f, w'.cell? ⟨b, f, none⟩ = w.cell? ⟨b, f, none⟩) (hL : ∀ b, b ∈ g.L x → w'.heap[b]? = w.heap[b]?)
    (e1 : g'.addr x = g.addr x) (e2 : g'.base x = g.base x) (e3 : g'.L x = g.L x) (e4 : ob' x = σ.objs x) : Keep w I g σ.objs w' I' g' ob' x := by
  intro r u hs
  rw [e1, e2, e3, e4]
  have hob := h.obj x
  unfold ObR at hob
  cases hq : σ.objs x with
  | none => rw [hq] at hs; exact hs.elim
  | some p =>
    rw [hq] at hs hob
    simp only [seeO] at hs ⊢
    cases p with
    | dead => exact see_dead
    | cells cs => exact see_cells rfl hs
    | rows e t dp xs =>
      refine see_same hI (fun b hb => ⟨id, fun f => ?_⟩) hs
      rcases hb with hb | hb
      · exact cell_block (hL b hb) f
      · obtain ⟨vs, L', ho, hr, e⟩ := hob
        exact cell_block (hL b (by rw [e, hb]; simp)) f
    | fz t dp xs =>
      obtain ⟨h0, A, cap, hb0, hc1, hc2, hc3⟩ := hob
      cases r with
      | ns i j =>
        cases dp with
        | false => trivial
        | true =>
          obtain ⟨h0', b, f1, cap, h1, h2, h3⟩ := hs
          refine ⟨h0', b, f1, cap, h1, h2, ?_⟩
          rw [h1] at hb0
          simp only [List.cons.injEq, Value.slice.injEq, and_true] at hb0
          obtain ⟨b', o', vs, hA, hca, _⟩ := hc3 i xs[i] (List.getElem?_eq_getElem h2)
          rw [← hb0.1] at hA
          cases hA
          rw [(hI b hca.1).2]; exact h3
      | vw t x => cases dp with
        | false => trivial
        | true => exact RT.kept (fun b hb => (hI b hb).1) (fun b hb => (hI b hb).2) hs
      | vp t x j => cases dp with
        | false => trivial
        | true => exact PD.kept hs (fun b hb => (hI b hb).1) (fun b hb => (hI b hb).2)
      | _ => exact hs
/-- More blocks are read. -/
theorem Inv.widen [Glob] (h : Inv K w I g σ tm) (hI : ∀ b, I b → I' b) (hI' : ∀ b, I' b → I b ∨ (Free K I g b ∧ b < w.heap.size)) : Inv K w I' g σ tm := by
  have hII : ∀ b, I b → I' b ∧ ∀ f, w.cell? ⟨b, f, none⟩ = w.cell? ⟨b, f, none⟩ := fun b hb => ⟨hI b hb, fun _ => rfl⟩
  have hk : ∀ x, Keep w I g σ.objs w I' g σ.objs x := fun x => h.keepX hII (fun _ _ => rfl) rfl rfl rfl rfl
  refine h.change rfl rfl h.fr hII (fun b hb => ?_) hk h.dis h.nod (fun o b hb => ?_) h.ext h.exB fun o => ObR.same rfl rfl rfl rfl hII (fun _ _ => rfl) hk (h.obj o)
  · rcases hI' b hb with hb | ⟨h1, h2⟩
    · exact h.immX b hb
    · exact ⟨h2, fun hlt => .inr (h1.m hlt)⟩
  · obtain ⟨q1, q2, q3⟩ := h.own o b hb
    refine ⟨fun hb' => ?_, q2, q3⟩
    rcases hI' b hb' with hb' | ⟨h1, _⟩
    · exact q1 hb'
    · exact h1.l o hb
end
theorem run_callFn {o : Oper} {f : FuncId} {xs : List Operand} {tys : Array TypeId} {fn : Func} (ho : o.op = .call { callee := .value (.func f), args := xs.toArray, argTypes := tys }) (hf : P.funcs[f]? = some fn) (hb : fn.body.isSome = true) (hnm : (fn.name == "runtime.NumGoroutine") = false) (tm : Array Value) (w : World) :
    (execOp (Act.eval ⟨tm, []⟩) o).run P w = .ok (.enter f (xs.map (Act.eval ⟨tm, []⟩)).toArray) w := by
  have hbn : ¬ fn.body = none := by intro h; rw [h] at hb; cases hb
  have hnm' : ¬ fn.name = "runtime.NumGoroutine" := by simpa using hnm
  have hev : Act.eval ⟨tm, []⟩ (.func f) = .func (.func f) #[] #[] := rfl
  simp [execOp, ho, resolve, hev, Deferred.ofValue, invoke, callFunc, hf, hnm', hbn]
/-- May the function f be called by its body? -/
def fnB (P : Program) (f : FuncId) : Bool := match P.funcs[f]? with
  | some fn => fn.body.isSome && !(fn.name == "runtime.NumGoroutine")
  | none => false
theorem fnB_run {o : Oper} {f : FuncId} {xs : List Operand} {tys : Array TypeId} (ho : o.op = .call { callee := .value (.func f), args := xs.toArray, argTypes := tys }) (hf : fnB P f = true) (tm : Array Value) (w : World) :
    (execOp (Act.eval ⟨tm, []⟩) o).run P w = .ok (.enter f (xs.map (Act.eval ⟨tm, []⟩)).toArray) w := by
  unfold fnB at hf
  split at hf
  · rename_i fn hq
    obtain ⟨h1, h2⟩ := Bool.and_eq_true_iff.1 hf
    exact run_callFn ho hq h1 (by simpa using h2) tm w
  · cases hf
/-- A function that is handed data alone. a: it may read all that lies in memory, and what it hands back is its own. -/
theorem op_call [Glob] {o : Oper} {d : Option Nat} {f : FuncId} {xs : List Operand} {tys : Array TypeId} {args post : List SA} {res : RS} {id : Nat} {N : St → Prop} (a : Bool) (hF : FnC P f args post res) (ho : o.op = .call { callee := .value (.func f), args := xs.toArray, argTypes := tys }) (hd : o.dst = d) (ht : dstB σ.n d = true) (hf : fnB P f = true)
    (hargs : dPs a σ.objs args (xs.map σ.ev)) (hcl : (!a || res.cells.all S0.closed) = true) (hid : newR σ.objs d res.cells.length = some id) (hN : N ((enC id res.cells σ).putD d (res.svN id))) : OpW P o N σ := by
  intro K w I g tm hi
  rw [fnB_run ho hf]
  simp only [Oper.upon]
  have hS : ∃ S : Nat → Prop, (∀ b, S b → b < w.heap.size) ∧ (∀ b, I b → S b) ∧ (a = true → ∀ o b, b ∈ g.L o → S b) ∧ (a = false → S = I) := by
    cases a with
    | true => exact ⟨fun b => b < w.heap.size, fun _ h => h, fun b hb => (hi.immX b hb).1, fun _ o b hb => hi.ob_lt hb, (fun h => by cases h)⟩
    | false => exact ⟨I, fun b hb => (hi.immX b hb).1, fun _ h => h, (fun h => by cases h), fun _ => rfl⟩
  obtain ⟨S, hS1, hS2, hS3, hS4⟩ := hS
  refine (hF w S _ [] [] ⟨hS1, hi.glob.kept hS2 fun _ _ _ => rfl⟩ (dPs_ok hi hS2 hS3 hargs) (by simp) (fun b hb => by simp at hb)).mono ?_
  rintro e w' ⟨v, rfl, hfc, I', L', Lr, hI1, hI2, hpost, hres, hnd, hown⟩
  have hgr : Grow w w' fun _ => False := ⟨hfc.os, hfc.tape, hfc.output, hfc.size, fun b hb _ => hfc.old b hb (by simp) (by simp)⟩
  have hi1 := hi.scrib hgr fun _ h => h.elim
  obtain ⟨_, hnr, _⟩ := List.nodup_append.1 hnd
  have key : ∃ I2, Inv K w' I2 g σ tm ∧ RR0 w' I2 res v Lr ∧ ∀ b ∈ Lr, Free K I2 g b := by
    have hnew : ∀ b ∈ Lr, ¬ I' b ∧ w.heap.size ≤ b := fun b hb => by
      obtain ⟨q1, _, _, q4⟩ := hown b (by simp [hb])
      exact ⟨q1, Nat.le_of_not_lt fun hlt => by have := q4 hlt; simp at this⟩
    cases a with
    | true =>
      refine ⟨I, hi1, ⟨hres.1, hres.2.free (by simpa using hcl)⟩, fun b hb => free_new hi (hnew b hb).2⟩
    | false =>
      have hSI := hS4 rfl
      subst hSI
      refine ⟨I', hi1.widen hI1 fun b hb => ?_, hres, fun b hb => ?_⟩
      · obtain ⟨q1, q2⟩ := hI2 b hb
        by_cases hlt : b < w.heap.size
        · rcases q2 hlt with h | h
          · exact .inl h
          · simp at h
        · exact .inr ⟨free_new hi (Nat.le_of_not_lt hlt), q1⟩
      · obtain ⟨q1, q2⟩ := hnew b hb
        have := free_new hi q2
        exact ⟨q1, this.l, this.m⟩
  obtain ⟨I2, hi2, hr2, hf2⟩ := key
  obtain ⟨g', hfin⟩ := hi2.res hr2 hnr hf2 (newR_ok hid) ht
  cases d with
  | none => simp only [Act.put, hd]; exact ⟨trivial, _, _, _, hN, hfin⟩
  | some t => simp only [Act.put, hd]; exact ⟨trivial, _, _, _, hN, hfin⟩
end Go.LX

