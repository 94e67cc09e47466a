/- Sub-slices; parts of tuples and structs; struct literals. -/
import Derived.Test.YtojaiockbpcilaaLxPart
set_option linter.unusedVariables false
set_option linter.unusedSimpArgs false
namespace Go.LX

variable {P : Program} {σ : St}

def cut {α : Type} (lo hi : Option Int) (xs : List α) : List α :=
  match lo, hi with
  | none, none => xs
  | some l, none => xs.drop l.toNat
  | none, some h => xs.take h.toNat
  | some l, some h => (xs.drop l.toNat).take (h.toNat - l.toNat)
def cutP (lo hi : Option Int) (n : Int) : Prop :=
  match lo, hi with
  | none, none => True
  | some l, none => 0 ≤ l ∧ l ≤ n
  | none, some h => 0 ≤ h ∧ h ≤ n
  | some l, some h => 0 ≤ l ∧ l ≤ h ∧ h ≤ n
def cutL (lo : Option Int) : Nat := match lo with | none => 0 | some l => l.toNat
def cutH (hi : Option Int) (n : Nat) : Nat := match hi with | none => n | some h => h.toNat
theorem cutP_ok {lo hi : Option Int} {n : Nat} (h : cutP lo hi n) : 0 ≤ lo.getD 0 ∧ lo.getD 0 ≤ hi.getD n ∧ hi.getD (n : Int) ≤ n ∧ (lo.getD 0).toNat = cutL lo ∧ (hi.getD (n : Int)).toNat = cutH hi n ∧ cutL lo ≤ cutH hi n ∧ cutH hi n ≤ n := by
  cases lo <;> cases hi <;> simp only [cutP, cutL, cutH, Option.getD_none, Option.getD_some] at h ⊢ <;> (refine ⟨?_, ?_, ?_, ?_, ?_, ?_, ?_⟩ <;> first | omega | simp)
theorem cut_eq {α : Type} {lo hi : Option Int} {xs : List α} (h : cutP lo hi (xs.length : Int)) : cut lo hi xs = (xs.drop (cutL lo)).take (cutH hi xs.length - cutL lo) := by
  cases lo <;> cases hi <;> simp only [cutP, cutL, cutH, cut] at h ⊢
  · simp
  · simp
  · rw [List.take_of_length_le]; simp
theorem run_sliceB {t e : TypeId} {size : Nat} (ht : P.underlying t = some (.slice e)) (hs : sizeB P e = some size) {lo hi' : Option Value} {l h : Option Int} (hl : ∀ v, lo = some v → ∃ k i, l = some i ∧ v = .int k i) (hl0 : lo = none → l = none) (hh : ∀ v, hi' = some v → ∃ k i, h = some i ∧ v = .int k i) (hh0 : hi' = none → h = none)
    (a : Option Addr) (len cap : Nat) (hlc : len ≤ cap) (h0 : 0 ≤ l.getD 0) (h1 : l.getD 0 ≤ h.getD len) (h2 : h.getD len ≤ len) (w : World) :
    (Instr.sliceAt t (.slice a len cap) lo hi' none).run P w = .ok (sliced a (l.getD 0).toNat (h.getD len).toNat cap size) w := by
  have hel : P.elem t = e := by simp [Program.elem, ht]
  have ht' : P.underlying t = some (.slice (P.elem t)) := by rw [hel]; exact ht
  have hsz : (sizeOf (P.elem t)).run P w = .ok size w := by rw [hel]; exact run_sizeB hs w
  rw [run_sliceAt_slice _ _ _ _ _ _ ht']
  cases lo with
  | none =>
    obtain rfl := hl0 rfl
    cases hi' with
    | none =>
      obtain rfl := hh0 rfl
      simp [run_slice_all _ _ _ _ _ ht', hsz]
    | some x =>
      obtain ⟨k, i, rfl, rfl⟩ := hh x rfl
      simp at h1 h2 ⊢
      rw [run_slice_h _ _ _ _ _ ht' k i (by omega) (by omega), hsz]
      simp
  | some y =>
    obtain ⟨k', j, rfl, rfl⟩ := hl y rfl
    cases hi' with
    | none =>
      obtain rfl := hh0 rfl
      simp at h0 h1 ⊢
      rw [run_slice_l _ _ _ _ _ ht' k' j h0 (by omega), hsz]
      simp
    | some x =>
      obtain ⟨k, i, rfl, rfl⟩ := hh x rfl
      simp at h0 h1 h2 ⊢
      rw [run_slice_lh _ _ _ _ _ ht' k' k j i h0 h1 (by omega), hsz]
      simp
theorem RT.sliced {w : World} {S : Nat → Prop} {t : Ty} {xs : List t.T} {a : Option Addr} {len cap : Nat} {lo hi : Option Int} (hr : RT w S (.sl t) xs [.slice a len cap]) (hp : cutP lo hi (xs.length : Int)) : RT w S (.sl t) (cut lo hi xs) [Go.sliced a (cutL lo) (cutH hi xs.length) cap t.w] := by
  obtain ⟨A, cap', hu, h1, h2, h3⟩ := hr
  simp only [List.cons.injEq, Value.slice.injEq, and_true] at hu
  obtain ⟨rfl, rfl, rfl⟩ := hu
  obtain ⟨_, _, _, _, _, q1, q2⟩ := cutP_ok hp
  rw [cut_eq hp]
  have hl : ((xs.drop (cutL lo)).take (cutH hi xs.length - cutL lo)).length = cutH hi xs.length - cutL lo := by simp; omega
  refine ⟨_, cap - cutL lo, by rw [hl]; rfl, by rw [hl]; omega, by omega, fun i x hx => ?_⟩
  have hi' : i < cutH hi xs.length - cutL lo := by have := (List.getElem?_eq_some_iff.1 hx).1; omega
  rw [List.getElem?_take, if_pos hi', List.getElem?_drop] at hx
  obtain ⟨b, o, vs, rfl, hc, hr⟩ := h3 _ x hx
  refine ⟨b, o + cutL lo * t.w, vs, ?_, ⟨hc.1, fun j u hu => ?_⟩, hr⟩
  · rw [if_neg (by omega)]; simp [addr_add]
  · have := hc.2 j u hu
    rw [Nat.add_mul] at this
    rw [show o + cutL lo * t.w + i * t.w + j = o + (cutL lo * t.w + i * t.w) + j by omega]
    exact this
def szC (n : Nat) (t : Ty) (p : Prop) (c : C) : Option (Prop × C) := bif Nat.beq n t.w then some (p, c) else none
def slcR (o : Nat) (n : Nat) (lo hi : Option Int) : Ob → Option (Σ e : Ty, List e.T) → Rf → Option (Prop × C)
  | .rows _ t _ xs, _, .ar => match lo, hi with
    | none, none => szC n t True (.rf o .ar)
    | _, _ => szC n t (cutP lo hi (xs.length : Int)) (.rf o (.sb (cutL lo) (cutH hi xs.length - cutL lo)))
  | .rows _ t _ _, _, .sb off len => szC n t (cutP lo hi (len : Int)) (.rf o (.sb (off + cutL lo) (cutH hi len - cutL lo)))
  | .rows _ _ true _, some ⟨t, xs⟩, .vw _ _ => szC n t (cutP lo hi (xs.length : Int)) (.rf o (.vw (.sl t) (cut lo hi xs)))
  | .rows _ _ true _, some ⟨t, xs⟩, .ns _ _ => szC n t (cutP lo hi (xs.length : Int)) (.rf o (.vw (.sl t) (cut lo hi xs)))
  | .fz _ _ _, some ⟨t, xs⟩, _ => szC n t (cutP lo hi (xs.length : Int)) (.d (.sl t) (cut lo hi xs))
  | _, _, _ => none
def slcC (ob : Nat → Option Ob) (n : Nat) (lo hi : Option Int) : C → Option (Prop × C)
  | .d (.sl t) xs => szC n t (cutP lo hi (xs.length : Int)) (.d (.sl t) (cut lo hi xs))
  | .nl => some (cutP lo hi 0, .nl)
  | .rf o r => match ob o with
    | some q => slcR o n lo hi q (slC ob (.rf o r)) r
    | none => none
  | _ => none
theorem szC_ok {n : Nat} {t : Ty} {p p' : Prop} {c c' : C} (h : szC n t p c = some (p', c')) : n = t.w ∧ p' = p ∧ c' = c := by
  unfold szC at h
  cases hb : Nat.beq n t.w with
  | false => rw [hb] at h; cases h
  | true => rw [hb] at h; cases h; exact ⟨Nat.eq_of_beq_eq_true hb, rfl, rfl⟩
/-- What a slice cell is cut to: for every header of the value. -/
theorem slcC_ok [Glob] {K : Ctx} {w : World} {I : Nat → Prop} {g : Gh} {tm : Array Value} (hi : Inv K w I g σ tm) {n : Nat} {lo hi' : Option Int} {c c' : C} {u : Value} {p : Prop} (h : CR w I g σ.objs c u) (hc : slcC σ.objs n lo hi' c = some (p, c')) (hp : p) :
    ∃ a len cap, u = .slice a len cap ∧ len ≤ cap ∧ cutP lo hi' (len : Int) ∧ CR w I g σ.objs c' (sliced a (cutL lo) (cutH hi' len) cap n) := by
  have data : ∀ {S : Nat → Prop} {t : Ty} {xs : List t.T}, RT w S (.sl t) xs [u] → cutP lo hi' (xs.length : Int) → ∃ a len cap, u = .slice a len cap ∧ len ≤ cap ∧ cutP lo hi' (len : Int) ∧ RT w S (.sl t) (cut lo hi' xs) [sliced a (cutL lo) (cutH hi' len) cap t.w] := by
    intro S t xs hr hp
    obtain ⟨A, cap, hu, h1, _⟩ := id hr
    simp only [List.cons.injEq, and_true] at hu
    subst hu
    exact ⟨A, _, cap, rfl, h1, hp, hr.sliced hp⟩
  unfold slcC at hc
  split at hc
  · obtain ⟨rfl, rfl, rfl⟩ := szC_ok hc
    exact data h hp
  · simp only [Option.some.injEq, Prod.mk.injEq] at hc
    obtain ⟨rfl, rfl⟩ := hc
    refine ⟨none, 0, 0, h, Nat.le_refl _, hp, ?_⟩
    obtain ⟨_, _, _, _, _, q1, q2⟩ := cutP_ok (n := 0) hp
    have e1 : cutH hi' 0 = 0 := by omega
    have e2 : cutL lo = 0 := by omega
    show sliced none (cutL lo) (cutH hi' 0) 0 n = .slice none 0 0
    rw [e1, e2]; rfl
  · rename_i o r
    split at hc
    · rename_i q hq
      have h' : seeO w I (g.addr o) (g.base o) (g.L o) (σ.objs o) r u := h
      rw [hq] at h'
      have see' : ∀ {r' : Rf} {v : Value}, see w I (g.addr o) (g.base o) (g.L o) q r' v → CR w I g σ.objs (.rf o r') v := fun hv => by
        show seeO _ _ _ _ _ (σ.objs o) _ _
        rw [hq]; exact hv
      generalize hsl : LX.slC σ.objs (.rf o r) = so at hc
      cases q with
      | dead => simp [slcR] at hc
      | cells cs => simp [slcR] at hc
      | rows e t dp xs =>
        have viewed : ∀ {t1 : Ty} {ys : List t1.T}, dp = true → ((∃ t x, r = .vw t x) ∨ ∃ i j, r = .ns i j) → so = some ⟨t1, ys⟩ → cutP lo hi' (ys.length : Int) →
            ∃ a len cap, u = .slice a len cap ∧ len ≤ cap ∧ cutP lo hi' (len : Int) ∧ CR w I g σ.objs (.rf o (.vw (.sl t1) (cut lo hi' ys))) (sliced a (cutL lo) (cutH hi' len) cap t1.w) := by
          intro t1 ys hdp hr hso hp
          subst hdp
          rw [hso] at hsl
          obtain ⟨a, len, cap, h1, h2, h3, h4⟩ := data (CR.slV hi hq h hr hsl) hp
          exact ⟨a, len, cap, h1, h2, h3, see' h4⟩
        cases r with
        | ar =>
          have hu : u = g.base o := h'
          subst hu
          obtain ⟨A, cap, hb, hlc, hcm, _⟩ := (hi.rows hq).rt
          simp only [List.cons.injEq, and_true] at hb
          have part : cutP lo hi' (xs.length : Int) → n = t.w → c' = .rf o (.sb (cutL lo) (cutH hi' xs.length - cutL lo)) → ∃ a len cap, g.base o = .slice a len cap ∧ len ≤ cap ∧ cutP lo hi' (len : Int) ∧ CR w I g σ.objs c' (sliced a (cutL lo) (cutH hi' len) cap n) := by
            rintro hp rfl rfl
            obtain ⟨_, _, _, _, _, q1, q2⟩ := cutP_ok hp
            refine ⟨A, _, cap, hb, hlc, hp, see' ⟨A, cap, _, cap - cutL lo, hb, rfl, by omega, by omega, by omega, fun hlen => ?_⟩⟩
            obtain ⟨b, f1, cap', hb'⟩ := own_base (hi.rows hq) (by omega)
            rw [hb'] at hb
            simp only [Value.slice.injEq] at hb
            obtain ⟨rfl, _, rfl⟩ := hb
            refine ⟨b, f1, rfl, ?_⟩
            rw [if_neg (by omega)]
            simp [addr_add]
          cases lo with
          | none =>
            cases hi' with
            | none =>
              simp only [slcR] at hc
              obtain ⟨rfl, rfl, rfl⟩ := szC_ok hc
              refine ⟨A, _, cap, hb, hlc, trivial, see' ?_⟩
              show _ = g.base o
              rw [hb]
              simp [sliced, cutL, cutH]
              intro _; cases A <;> simp [Addr.add]
            | some x =>
              simp only [slcR] at hc
              obtain ⟨h1, rfl, h3⟩ := szC_ok hc
              exact part hp h1 h3
          | some y =>
            simp only [slcR] at hc
            obtain ⟨h1, rfl, h3⟩ := szC_ok hc
            exact part hp h1 h3
        | sb off len =>
          simp only [slcR] at hc
          obtain ⟨rfl, rfl, rfl⟩ := szC_ok hc
          obtain ⟨A, cap, B, c0, e1, rfl, e2, e3, e4, e5⟩ := h'
          obtain ⟨_, _, _, _, _, q1, q2⟩ := cutP_ok hp
          refine ⟨B, len, c0, rfl, e3, hp, see' ⟨A, cap, _, c0 - cutL lo, e1, rfl, by omega, by omega, by omega, fun hlen => ?_⟩⟩
          obtain ⟨b, f1, rfl, rfl⟩ := e5 (by omega)
          refine ⟨b, f1, rfl, ?_⟩
          rw [if_neg (by omega)]
          simp [addr_add, Nat.add_mul, Nat.add_assoc]
        | vw t1 x1 =>
          cases dp with
          | false => simp [slcR] at hc
          | true =>
            cases hso : so with
            | none => rw [hso] at hc; simp [slcR] at hc
            | some y =>
              obtain ⟨t2, ys⟩ := y
              rw [hso] at hc
              simp only [slcR] at hc
              obtain ⟨rfl, rfl, rfl⟩ := szC_ok hc
              exact viewed rfl (.inl ⟨_, _, rfl⟩) hso hp
        | ns i1 j1 =>
          cases dp with
          | false => simp [slcR] at hc
          | true =>
            cases hso : so with
            | none => rw [hso] at hc; simp [slcR] at hc
            | some y =>
              obtain ⟨t2, ys⟩ := y
              rw [hso] at hc
              simp only [slcR] at hc
              obtain ⟨rfl, rfl, rfl⟩ := szC_ok hc
              exact viewed rfl (.inr ⟨_, _, rfl⟩) hso hp
        | _ => simp [slcR] at hc
      | fz t dp xs =>
        cases hso : so with
        | none => rw [hso] at hc; simp [slcR] at hc
        | some y =>
          obtain ⟨t2, ys⟩ := y
          rw [hso] at hc hsl
          simp only [slcR] at hc
          obtain ⟨rfl, rfl, rfl⟩ := szC_ok hc
          have hL : g.L o = [] := by have hob := hi.obj o; unfold ObR at hob; rw [hq] at hob; exact hob.1
          have hrt := CR.slC hi h hsl
          simp only [C.oid, hL, List.not_mem_nil, or_false] at hrt
          exact data hrt hp
    · cases hc
  · cases hc
/-- A bound: left out, or a whole number. -/
def bnd (ev : Operand → SV) : Option Operand → Option (Option Int)
  | none => some none
  | some x => match ev x with
    | .one (.d (.i _) i) => some (some i)
    | _ => none
theorem bnd_ok [Glob] {K : Ctx} {w : World} {I : Nat → Prop} {g : Gh} {tm : Array Value} (hi : Inv K w I g σ tm) {x : Option Operand} {l : Option Int} (h : bnd σ.ev x = some l) : (∀ v, x.map (Act.eval ⟨tm, []⟩) = some v → ∃ k i, l = some i ∧ v = .int k i) ∧ (x.map (Act.eval ⟨tm, []⟩) = none → l = none) := by
  cases x with
  | none => cases h; exact ⟨fun v hv => (by cases hv), fun _ => rfl⟩
  | some y =>
    simp only [bnd] at h
    split at h
    · rename_i k i he
      cases h
      exact ⟨fun v hv => (by cases hv; exact ⟨k, i, rfl, hi.ev_i he⟩), fun hv => (by cases hv)⟩
    · cases h
def evSlice (P : Program) (ob : Nat → Option Ob) (ty : TypeId) (lo hi : Option (Option Int)) : SV → Option (Prop × SV)
  | .one (.d .st s) => lo.bind fun lo => hi.bind fun hi => bif isStrB P ty then some (cutP lo hi (s.length : Int), .one (.d .st (cut lo hi s))) else none
  | .one c => (elemB P ty).bind fun e => (sizeB P e).bind fun n => lo.bind fun lo => hi.bind fun hi => (slcC ob n lo hi c).map fun x => (x.1, .one x.2)
  | _ => none
theorem run_sliceStr {ty : TypeId} (hs : isStrB P ty = true) {s : List UInt8} {lo hi' : Option Value} {l h : Option Int} (hl : ∀ v, lo = some v → ∃ k i, l = some i ∧ v = .int k i) (hl0 : lo = none → l = none) (hh : ∀ v, hi' = some v → ∃ k i, h = some i ∧ v = .int k i) (hh0 : hi' = none → h = none)
    (hp : cutP l h (s.length : Int)) (w : World) : (Instr.sliceAt ty (strV s) lo hi' none).run P w = .ok (strV (cut l h s)) w := by
  have hu := isStrB_ok hs
  rw [run_sliceAt_string _ _ _ _ _ _ hu]
  have hsz : (⟨s.toArray⟩ : ByteArray).size = s.length := by simp [ByteArray.size]
  have ext : ∀ a b, b ≤ s.length → (⟨s.toArray⟩ : ByteArray).extract a b = ⟨((s.drop a).take (b - a)).toArray⟩ := by
    intro a b hb
    apply ByteArray.ext
    apply Array.ext'
    simp [List.extract_eq_take_drop]
  have q := cutP_ok hp
  have key : ∀ (a b : Int), 0 ≤ a → a ≤ b → b ≤ s.length → (⟨s.toArray⟩ : ByteArray).extract a.toNat b.toNat = ⟨((s.drop a.toNat).take (b.toNat - a.toNat)).toArray⟩ := fun a b _ _ _ => ext _ _ (by omega)
  cases lo with
  | none =>
    obtain rfl := hl0 rfl
    cases hi' with
    | none =>
      obtain rfl := hh0 rfl
      simp [Instr.slice, run_underlying hu, strV, Instr.sliceBounds, cut, hsz, ext 0 s.length (Nat.le_refl _)]
    | some x =>
      obtain ⟨k, i, rfl, rfl⟩ := hh x rfl
      simp only [cutP] at hp
      simp [Instr.slice, run_underlying hu, strV, Instr.sliceBounds, cut, hsz, run_sliceBound, hp.1, hp.2, ext 0 i.toNat (by omega)]
  | some y =>
    obtain ⟨k', j, rfl, rfl⟩ := hl y rfl
    cases hi' with
    | none =>
      obtain rfl := hh0 rfl
      simp only [cutP] at hp
      have e := ext j.toNat s.length (Nat.le_refl _)
      rw [List.take_of_length_le (by simp)] at e
      simp [Instr.slice, run_underlying hu, strV, Instr.sliceBounds, cut, hsz, run_sliceBound, hp.1, hp.2, e]
    | some x =>
      obtain ⟨k, i, rfl, rfl⟩ := hh x rfl
      simp only [cutP] at hp
      have hi0 : 0 ≤ i := by omega
      have hji : j ≤ ((i.toNat : Nat) : Int) := by omega
      have hb : (Instr.sliceBound (.int k' j) i.toNat .sliceB).run P w = .ok j.toNat w := by
        unfold Instr.sliceBound
        simp only [asIntOf, Sem.run_bind, Sem.run_pure, Result.andThen_ok]
        rw [if_pos ⟨hp.1, hji⟩]; rfl
      simp [Instr.slice, run_underlying hu, strV, Instr.sliceBounds, cut, hsz, run_sliceBound, hp.2.2, hi0, hb, ext j.toNat i.toNat (by omega)]
theorem evSlice_ok [Glob] {o : Oper} {ty : TypeId} {x : Operand} {lo hi' : Option Operand} {p : Prop} {s : SV} (ho : o.op = .slice ty x lo hi' none) (h : evSlice P σ.objs ty (bnd σ.ev lo) (bnd σ.ev hi') (σ.ev x) = some (p, s)) : PureOK P σ o p s := by
  unfold evSlice at h
  split at h
  · rename_i s' hx
    simp only [Option.bind_eq_some_iff] at h
    obtain ⟨l, hl, hh, hhh, h⟩ := h
    cases hb : isStrB P ty with
    | false => rw [hb] at h; cases h
    | true =>
      rw [hb] at h
      simp only [cond_true, Option.some.injEq, Prod.mk.injEq] at h
      obtain ⟨rfl, rfl⟩ := h
      refine .st fun K w I g tm hi hp => ?_
      obtain ⟨l1, l2⟩ := bnd_ok hi hl
      obtain ⟨h1, h2⟩ := bnd_ok hi hhh
      simp [execOp, ho, hi.ev_st hx, run_sliceStr hb l1 l2 h1 h2 hp w]
  · rename_i c _ hx
    simp only [Option.bind_eq_some_iff, Option.map_eq_some_iff] at h
    obtain ⟨e, he, n, hn, l, hl, hh, hhh, ⟨p', c'⟩, hcc, h⟩ := h
    simp only [Prod.mk.injEq] at h
    obtain ⟨rfl, rfl⟩ := h
    intro K w I g tm hi hp
    obtain ⟨l1, l2⟩ := bnd_ok hi hl
    obtain ⟨h1, h2⟩ := bnd_ok hi hhh
    obtain ⟨a, len, cap, hu, hlc, hcp, hr⟩ := slcC_ok hi (hi.ev_one hx).1 hcc hp
    obtain ⟨q1, q2, q3, q4, q5, _⟩ := cutP_ok hcp
    have := run_sliceB (P := P) (elemB_ok he) hn l1 l2 h1 h2 a len cap hlc q1 q2 q3 w
    rw [q4, q5] at this
    exact ⟨_, by simp [execOp, ho, hu, this], shape_one rfl hr⟩
  · cases h
end Go.LX
