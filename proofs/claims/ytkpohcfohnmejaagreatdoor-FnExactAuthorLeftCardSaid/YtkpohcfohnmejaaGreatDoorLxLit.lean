/- A part of the proof of the statement in the row text. -/
import Derived.Test.YtkpohcfohnmejaaGreatDoorLxPart
/- Sub-slices; parts of tuples and structs; struct literals. -/
set_option linter.unusedVariables false
set_option linter.unusedSimpArgs false
namespace Go.LX

variable {P : Program} {σ : St}

def cut {α : Type} (lo hi : Option Int) (xs : List α) : List α :=
  match lo, hi with
  | none, none => xs
  | some l, none => xs.drop l.toNat
  | none, some h => xs.take h.toNat
  | some l, some h => (xs.drop l.toNat).take (h.toNat - l.toNat)
def cutP (lo hi : Option Int) (n : Int) : Prop :=
  match lo, hi with
  | none, none => True
  | some l, none => 0 ≤ l ∧ l ≤ n
  | none, some h => 0 ≤ h ∧ h ≤ n
  | some l, some h => 0 ≤ l ∧ l ≤ h ∧ h ≤ n
def cutL (lo : Option Int) : Nat := match lo with | none => 0 | some l => l.toNat
def cutH (hi : Option Int) (n : Nat) : Nat := match hi with | none => n | some h => h.toNat
theorem cutP_ok {lo hi : Option Int} {n : Nat} (h : cutP lo hi n) : 0 ≤ lo.getD 0 ∧ lo.getD 0 ≤ hi.getD n ∧ hi.getD (n : Int) ≤ n ∧ (lo.getD 0).toNat = cutL lo ∧ (hi.getD (n : Int)).toNat = cutH hi n ∧ cutL lo ≤ cutH hi n ∧ cutH hi n ≤ n := by
  cases lo <;> cases hi <;> simp only [cutP, cutL, cutH, Option.getD_none, Option.getD_some] at h ⊢ <;> (refine ⟨?_, ?_, ?_, ?_, ?_, ?_, ?_⟩ <;> first | omega | simp)
theorem cut_eq {α : Type} {lo hi : Option Int} {xs : List α} (h : cutP lo hi (xs.length : Int)) : cut lo hi xs = (xs.drop (cutL lo)).take (cutH hi xs.length - cutL lo) := by
  cases lo <;> cases hi <;> simp only [cutP, cutL, cutH, cut] at h ⊢
  · simp
  · simp
  · rw [List.take_of_length_le]; simp
theorem run_sliceB {t e : TypeId} {size : Nat} (ht : P.underlying t = some (.slice e)) (hs : sizeB P e = some size) {lo hi' : Option Value} {l h : Option Int} (hl : ∀ v, lo = some v → ∃ k i, l = some i ∧ v = .int k i) (hl0 : lo = none → l = none) (hh : ∀ v, hi' = some v → ∃ k i, h = some i ∧ v = .int k i) (hh0 : hi' = none → h = none)
    (a : Option Addr) (len cap : Nat) (hlc : len ≤ cap) (h0 : 0 ≤ l.getD 0) (h1 : l.getD 0 ≤ h.getD len) (h2 : h.getD len ≤ len) (w : World) :
    (Instr.sliceAt t (.slice a len cap) lo hi' none).run P w = .ok (sliced a (l.getD 0).toNat (h.getD len).toNat cap size) w := by
  have hel : P.elem t = e := by simp [Program.elem, ht]
  have ht' : P.underlying t = some (.slice (P.elem t)) := by rw [hel]; exact ht
  have hsz : (sizeOf (P.elem t)).run P w = .ok size w := by rw [hel]; exact run_sizeB hs w
  rw [run_sliceAt_slice _ _ _ _ _ _ ht']
  cases lo with
  | none =>
    obtain rfl := hl0 rfl
    cases hi' with
    | none =>
      obtain rfl := hh0 rfl
      simp [run_slice_all _ _ _ _ _ ht', hsz]
    | some x =>
      obtain ⟨k, i, rfl, rfl⟩ := hh x rfl
      simp at h1 h2 ⊢
      rw [run_slice_h _ _ _ _ _ ht' k i (by omega) (by omega), hsz]
      simp
  | some y =>
    obtain ⟨k', j, rfl, rfl⟩ := hl y rfl
    cases hi' with
    | none =>
      obtain rfl := hh0 rfl
      simp at h0 h1 ⊢
      rw [run_slice_l _ _ _ _ _ ht' k' j h0 (by omega), hsz]
      simp
    | some x =>
      obtain ⟨k, i, rfl, rfl⟩ := hh x rfl
      simp at h0 h1 h2 ⊢
      rw [run_slice_lh _ _ _ _ _ ht' k' k j i h0 h1 (by omega), hsz]
      simp
theorem RT.sliced {w : World} {S : Nat → Prop} {t : Ty} {xs : List t.T} {a : Option Addr} {len cap : Nat} {lo hi : Option Int} (hr : RT w S (.sl t) xs [.slice a len cap]) (hp : cutP lo hi (xs.length : Int)) : RT w S (.sl t) (cut lo hi xs) [Go.sliced a (cutL lo) (cutH hi xs.length) cap t.w] := by
  obtain ⟨A, cap', hu, h1, h2, h3⟩ := hr
  simp only [List.cons.injEq, Value.slice.injEq, and_true] at hu
  obtain ⟨rfl, rfl, rfl⟩ := hu
  obtain ⟨_, _, _, _, _, q1, q2⟩ := cutP_ok hp
  rw [cut_eq hp]
  have hl : ((xs.drop (cutL lo)).take (cutH hi xs.length - cutL lo)).length = cutH hi xs.length - cutL lo := by simp; omega
  refine ⟨_, cap - cutL lo, by rw [hl]; rfl, by rw [hl]; omega, by omega, fun i x hx => ?_⟩
  have hi' : i < cutH hi xs.length - cutL lo := by have := (List.getElem?_eq_some_iff.1 hx).1; omega
  rw [List.getElem?_take, if_pos hi', List.getElem?_drop] at hx
  obtain ⟨b, o, vs, rfl, hc, hr⟩ := h3 _ x hx
  refine ⟨b, o + cutL lo * t.w, vs, ?_, ⟨hc.1, fun j u hu => ?_⟩, hr⟩
  · rw [if_neg (by omega)]; simp [addr_add]
  · have := hc.2 j u hu
    rw [Nat.add_mul] at this
    rw [show o + cutL lo * t.w + i * t.w + j = o + (cutL lo * t.w + i * t.w) + j by omega]
    exact this
def szC (n : Nat) (t : Ty) (p : Prop) (c : C) : Option (Prop × C) := bif Nat.beq n t.w then some (p, c) else none
def slcR (o : Nat) (n : Nat) (lo hi : Option Int) : Ob → Option (Σ e : Ty, List e.T) → Rf → Option (Prop × C)
  | .rows _ t _ xs, _, .ar => match lo, hi with
    | none, none => szC n t True (.rf o .ar)
    | _, _ => szC n t (cutP lo hi (xs.length : Int)) (.rf o (.sb (cutL lo) (cutH hi xs.length - cutL lo)))
  | .rows _ t _ _, _, .sb off len => szC n t (cutP lo hi (len : Int)) (.rf o (.sb (off + cutL lo) (cutH hi len - cutL lo)))
  | .rows _ _ true _, some ⟨t, xs⟩, .vw _ _ => szC n t (cutP lo hi (xs.length : Int)) (.rf o (.vw (.sl t) (cut lo hi xs)))
  | .rows _ _ true _, some ⟨t, xs⟩, .ns _ _ => szC n t (cutP lo hi (xs.length : Int)) (.rf o (.vw (.sl t) (cut lo hi xs)))
  | .fz _ _ _, some ⟨t, xs⟩, _ => szC n t (cutP lo hi (xs.length : Int)) (.d (.sl t) (cut lo hi xs))
  | _, _, _ => none
def slcC (ob : Nat → Option Ob) (n : Nat) (lo hi : Option Int) : C → Option (Prop × C)
  | .d (.sl t) xs => szC n t (cutP lo hi (xs.length : Int)) (.d (.sl t) (cut lo hi xs))
  | .nl => some (cutP lo hi 0, .nl)
  | .rf o r => match ob o with
    | some q => slcR o n lo hi q (slC ob (.rf o r)) r
    | none => none
  | _ => none
theorem szC_ok {n : Nat} {t : Ty} {p p' : Prop} {c c' : C} (h : szC n t p c = some (p', c')) : n = t.w ∧ p' = p ∧ c' = c := by
  unfold szC at h
  cases hb : Nat.beq n t.w with
  | false => rw [hb] at h; cases h
  | true => rw [hb] at h; cases h; exact ⟨Nat.eq_of_beq_eq_true hb, rfl, rfl⟩
/-- What a slice cell is cut to: for every header of the value. -/
theorem slcC_ok [Glob] {K : Ctx} {w : World} {I : Nat → Prop} {g : Gh} {tm : Array Value} (hi : Inv K w I g σ tm) {n : Nat} {lo hi' : Option Int} {c c' : C} {u : Value} {p : Prop} (h : CR w I g σ.objs c u) (hc : slcC σ.objs n lo hi' c = some (p, c')) (hp : p) :
    ∃ a len cap, u = .slice a len cap ∧ len ≤ cap ∧ cutP lo hi' (len : Int) ∧ CR w I g σ.objs c' (sliced a (cutL lo) (cutH hi' len) cap n) := by
  have data : ∀ {S : Nat → Prop} {t : Ty} {xs : List t.T}, RT w S (.sl t) xs [u] → cutP lo hi' (xs.length : Int) → ∃ a len cap, u = .slice a len cap ∧ len ≤ cap ∧ cutP lo hi' (len : Int) ∧ RT w S (.sl t) (cut lo hi' xs) [sliced a (cutL lo) (cutH hi' len) cap t.w] := by
    intro S t xs hr hp
    obtain ⟨A, cap, hu, h1, _⟩ := id hr
    simp only [List.cons.injEq, and_true] at hu
    subst hu
    exact ⟨A, _, cap, rfl, h1, hp, hr.sliced hp⟩
  unfold slcC at hc
  split at hc
  · obtain ⟨rfl, rfl, rfl⟩ := szC_ok hc
    exact data h hp
  · simp only [Option.some.injEq, Prod.mk.injEq] at hc
    obtain ⟨rfl, rfl⟩ := hc
    refine ⟨none, 0, 0, h, Nat.le_refl _, hp, ?_⟩
    obtain ⟨_, _, _, _, _, q1, q2⟩ := cutP_ok (n := 0) hp
    have e1 : cutH hi' 0 = 0 := by omega
    have e2 : cutL lo = 0 := by omega
    show sliced none (cutL lo) (cutH hi' 0) 0 n = .slice none 0 0
    rw [e1, e2]; rfl
  · rename_i o r
    split at hc
    · rename_i q hq
      have h' : seeO w I (g.addr o) (g.base o) (g.L o) (σ.objs o) r u := h
      rw [hq] at h'
      have see' : ∀ {r' : Rf} {v : Value}, see w I (g.addr o) (g.base o) (g.L o) q r' v → CR w I g σ.objs (.rf o r') v := fun hv => by
        show seeO _ _ _ _ _ (σ.objs o) _ _
        rw [hq]; exact hv
      generalize hsl : LX.slC σ.objs (.rf o r) = so at hc
      cases q with
      | dead => simp [slcR] at hc
      | cells cs => simp [slcR] at hc
      | rows e t dp xs =>
        have viewed : ∀ {t1 : Ty} {ys : List t1.T}, dp = true → ((∃ t x, r = .vw t x) ∨ ∃ i j, r = .ns i j) → so = some ⟨t1, ys⟩ → cutP lo hi' (ys.length : Int) →
            ∃ a len cap, u = .slice a len cap ∧ len ≤ cap ∧ cutP lo hi' (len : Int) ∧ CR w I g σ.objs (.rf o (.vw (.sl t1) (cut lo hi' ys))) (sliced a (cutL lo) (cutH hi' len) cap t1.w) := by
          intro t1 ys hdp hr hso hp
          subst hdp
          rw [hso] at hsl
          obtain ⟨a, len, cap, h1, h2, h3, h4⟩ := data (CR.slV hi hq h hr hsl) hp
          exact ⟨a, len, cap, h1, h2, h3, see' h4⟩
        cases r with
        | ar =>
          have hu : u = g.base o := h'
          subst hu
          obtain ⟨A, cap, hb, hlc, hcm, _⟩ := (hi.rows hq).rt
          simp only [List.cons.injEq, and_true] at hb
          have part : cutP lo hi' (xs.length : Int) → n = t.w → c' = .rf o (.sb (cutL lo) (cutH hi' xs.length - cutL lo)) → ∃ a len cap, g.base o = .slice a len cap ∧ len ≤ cap ∧ cutP lo hi' (len : Int) ∧ CR w I g σ.objs c' (sliced a (cutL lo) (cutH hi' len) cap n) := by
            rintro hp rfl rfl
            obtain ⟨_, _, _, _, _, q1, q2⟩ := cutP_ok hp
            refine ⟨A, _, cap, hb, hlc, hp, see' ⟨A, cap, _, cap - cutL lo, hb, rfl, by omega, by omega, by omega, fun hlen => ?_⟩⟩
            obtain ⟨b, f1, cap', hb'⟩ := own_base (hi.rows hq) (by omega)
            rw [hb'] at hb
            simp only [Value.slice.injEq] at hb
            obtain ⟨rfl, _, rfl⟩ := hb
            refine ⟨b, f1, rfl, ?_⟩
            rw [if_neg (by omega)]
            simp [addr_add]
          cases lo with
          | none =>
            cases hi' with
            | none =>
              simp only [slcR] at hc
              obtain ⟨rfl, rfl, rfl⟩ := szC_ok hc
              refine ⟨A, _, cap, hb, hlc, trivial, see' ?_⟩
              show _ = g.base o
              rw [hb]
              simp [sliced, cutL, cutH]
              intro _; cases A <;> simp [Addr.add]
            | some x =>
              simp only [slcR] at hc
              obtain ⟨h1, rfl, h3⟩ := szC_ok hc
              exact part hp h1 h3
          | some y =>
            simp only [slcR] at hc
            obtain ⟨h1, rfl, h3⟩ := szC_ok hc
            exact part hp h1 h3
        | sb off len =>
          simp only [slcR] at hc
          obtain ⟨rfl, rfl, rfl⟩ := szC_ok hc
          obtain ⟨A, cap, B, c0, e1, rfl, e2, e3, e4, e5⟩ := h'
          obtain ⟨_, _, _, _, _, q1, q2⟩ := cutP_ok hp
          refine ⟨B, len, c0, rfl, e3, hp, see' ⟨A, cap, _, c0 - cutL lo, e1, rfl, by omega, by omega, by omega, fun hlen => ?_⟩⟩
          obtain ⟨b, f1, rfl, rfl⟩ := e5 (by omega)
          refine ⟨b, f1, rfl, ?_⟩
          rw [if_neg (by omega)]
          simp [addr_add, Nat.add_mul, Nat.add_assoc]
        | vw t1 x1 =>
          cases dp with
          | false => simp [slcR] at hc
          | true =>
            cases hso : so with
            | none => rw [hso] at hc; simp [slcR] at hc
            | some y =>
              obtain ⟨t2, ys⟩ := y
              rw [hso] at hc
              simp only [slcR] at hc
              obtain ⟨rfl, rfl, rfl⟩ := szC_ok hc
              exact viewed rfl (.inl ⟨_, _, rfl⟩) hso hp
        | ns i1 j1 =>
          cases dp with
          | false => simp [slcR] at hc
          | true =>
            cases hso : so with
            | none => rw [hso] at hc; simp [slcR] at hc
            | some y =>
              obtain ⟨t2, ys⟩ := y
              rw [hso] at hc
              simp only [slcR] at hc
              obtain ⟨rfl, rfl, rfl⟩ := szC_ok hc
              exact viewed rfl (.inr ⟨_, _, rfl⟩) hso hp
        | _ => simp [slcR] at hc
      | fz t dp xs =>
        cases hso : so with
        | none => rw [hso] at hc; simp [slcR] at hc
        | some y =>
          obtain ⟨t2, ys⟩ := y
          rw [hso] at hc hsl
          simp only [slcR] at hc
          obtain ⟨rfl, rfl, rfl⟩ := szC_ok hc
          have hL : g.L o = [] := by have hob := hi.obj o; unfold ObR at hob; rw [hq] at hob; exact hob.1
          have hrt := CR.slC hi h hsl
          simp only [C.oid, hL, List.not_mem_nil, or_false] at hrt
          exact data hrt hp
    · cases hc
  · cases hc
/-- A bound: left out, or a whole number. -/
def bnd (ev : Operand → SV) : Option Operand → Option (Option Int)
  | none => some none
  | some x => match ev x with
    | .one (.d (.i _) i) => some (some i)
    | _ => none
theorem bnd_ok [Glob] {K : Ctx} {w : World} {I : Nat → Prop} {g : Gh} {tm : Array Value} (hi : Inv K w I g σ tm) {x : Option Operand} {l : Option Int} (h : bnd σ.ev x = some l) : (∀ v, x.map (Act.eval ⟨tm, []⟩) = some v → ∃ k i, l = some i ∧ v = .int k i) ∧ (x.map (Act.eval ⟨tm, []⟩) = none → l = none) := by
  cases x with
  | none => cases h; exact ⟨fun v hv => (by cases hv), fun _ => rfl⟩
  | some y =>
    simp only [bnd] at h
    split at h
    · rename_i k i he
      cases h
      exact ⟨fun v hv => (by cases hv; exact ⟨k, i, rfl, hi.ev_i he⟩), fun hv => (by cases hv)⟩
    · cases h
def evSlice (P : Program) (ob : Nat → Option Ob) (ty : TypeId) (lo hi : Option (Option Int)) : SV → Option (Prop × SV)
  | .one (.d .st s) => lo.bind fun lo => hi.bind fun hi => bif isStrB P ty then some (cutP lo hi (s.length : Int), .one (.d .st (cut lo hi s))) else none
  | .one c => (elemB P ty).bind fun e => (sizeB P e).bind fun n => lo.bind fun lo => hi.bind fun hi => (slcC ob n lo hi c).map fun x => (x.1, .one x.2)
  | _ => none
theorem run_sliceStr {ty : TypeId} (hs : isStrB P ty = true) {s : List UInt8} {lo hi' : Option Value} {l h : Option Int} (hl : ∀ v, lo = some v → ∃ k i, l = some i ∧ v = .int k i) (hl0 : lo = none → l = none) (hh : ∀ v, hi' = some v → ∃ k i, h = some i ∧ v = .int k i) (hh0 : hi' = none → h = none)
    (hp : cutP l h (s.length : Int)) (w : World) : (Instr.sliceAt ty (strV s) lo hi' none).run P w = .ok (strV (cut l h s)) w := by
  have hu := isStrB_ok hs
  rw [run_sliceAt_string _ _ _ _ _ _ hu]
  have hsz : (⟨s.toArray⟩ : ByteArray).size = s.length := by simp [ByteArray.size]
  have ext : ∀ a b, b ≤ s.length → (⟨s.toArray⟩ : ByteArray).extract a b = ⟨((s.drop a).take (b - a)).toArray⟩ := by
    intro a b hb
    apply ByteArray.ext
    apply Array.ext'
    simp [List.extract_eq_take_drop]
  have q := cutP_ok hp
  have key : ∀ (a b : Int), 0 ≤ a → a ≤ b → b ≤ s.length → (⟨s.toArray⟩ : ByteArray).extract a.toNat b.toNat = ⟨((s.drop a.toNat).take (b.toNat - a.toNat)).toArray⟩ := fun a b _ _ _ => ext _ _ (by omega)
  cases lo with
  | none =>
    obtain rfl := hl0 rfl
    cases hi' with
    | none =>
      obtain rfl := hh0 rfl
      simp [Instr.slice, run_underlying hu, strV, Instr.sliceBounds, cut, hsz, ext 0 s.length (Nat.le_refl _)]
    | some x =>
      obtain ⟨k, i, rfl, rfl⟩ := hh x rfl
      simp only [cutP] at hp
      simp [Instr.slice, run_underlying hu, strV, Instr.sliceBounds, cut, hsz, run_sliceBound, hp.1, hp.2, ext 0 i.toNat (by omega)]
  | some y =>
    obtain ⟨k', j, rfl, rfl⟩ := hl y rfl
    cases hi' with
    | none =>
      obtain rfl := hh0 rfl
      simp only [cutP] at hp
      have e := ext j.toNat s.length (Nat.le_refl _)
      rw [List.take_of_length_le (by simp)] at e
      simp [Instr.slice, run_underlying hu, strV, Instr.sliceBounds, cut, hsz, run_sliceBound, hp.1, hp.2, e]
    | some x =>
      obtain ⟨k, i, rfl, rfl⟩ := hh x rfl
      simp only [cutP] at hp
      have hi0 : 0 ≤ i := by omega
      have hji : j ≤ ((i.toNat : Nat) : Int) := by omega
      have hb : (Instr.sliceBound (.int k' j) i.toNat .sliceB).run P w = .ok j.toNat w := by
        unfold Instr.sliceBound
        simp only [asIntOf, Sem.run_bind, Sem.run_pure, Result.andThen_ok]
        rw [if_pos ⟨hp.1, hji⟩]; rfl
      simp [Instr.slice, run_underlying hu, strV, Instr.sliceBounds, cut, hsz, run_sliceBound, hp.2.2, hi0, hb, ext j.toNat i.toNat (by omega)]
theorem evSlice_ok [Glob] {o : Oper} {ty : TypeId} {x : Operand} {lo hi' : Option Operand} {p : Prop} {s : SV} (ho : o.op = .slice ty x lo hi' none) (h : evSlice P σ.objs ty (bnd σ.ev lo) (bnd σ.ev hi') (σ.ev x) = some (p, s)) : PureOK P σ o p s := by
  unfold evSlice at h
  split at h
  · rename_i s' hx
    simp only [Option.bind_eq_some_iff] at h
    obtain ⟨l, hl, hh, hhh, h⟩ := h
    cases hb : isStrB P ty with
    | false => rw [hb] at h; cases h
    | true =>
      rw [hb] at h
      simp only [cond_true, Option.some.injEq, Prod.mk.injEq] at h
      obtain ⟨rfl, rfl⟩ := h
      refine .st fun K w I g tm hi hp => ?_
      obtain ⟨l1, l2⟩ := bnd_ok hi hl
      obtain ⟨h1, h2⟩ := bnd_ok hi hhh
      simp [execOp, ho, hi.ev_st hx, run_sliceStr hb l1 l2 h1 h2 hp w]
  · rename_i c _ hx
    simp only [Option.bind_eq_some_iff, Option.map_eq_some_iff] at h
    obtain ⟨e, he, n, hn, l, hl, hh, hhh, ⟨p', c'⟩, hcc, h⟩ := h
    simp only [Prod.mk.injEq] at h
    obtain ⟨rfl, rfl⟩ := h
    intro K w I g tm hi hp
    obtain ⟨l1, l2⟩ := bnd_ok hi hl
    obtain ⟨h1, h2⟩ := bnd_ok hi hhh
    obtain ⟨a, len, cap, hu, hlc, hcp, hr⟩ := slcC_ok hi (hi.ev_one hx).1 hcc hp
    obtain ⟨q1, q2, q3, q4, q5, _⟩ := cutP_ok hcp
    have := run_sliceB (P := P) (elemB_ok he) hn l1 l2 h1 h2 a len cap hlc q1 q2 q3 w
    rw [q4, q5] at this
    exact ⟨_, by simp [execOp, ho, hu, this], shape_one rfl hr⟩
  · cases h
end Go.LX

/- Parts of tuples and structs; literals of structs; closures; the smaller of two. -/
set_option linter.unusedVariables false
set_option linter.unusedSimpArgs false
namespace Go.LX

variable {P : Program} {σ : St}

def fillC (place : Nat → Option (Nat × Nat)) (cells : List C) : List (Nat × List C) → Option (List C)
  | [] => some cells
  | (i, cs) :: rest => match place i with
    | none => none
    | some (off, size) => bif Nat.beq cs.length size && Nat.ble (off + size) cells.length then fillC place (cells.take off ++ cs ++ cells.drop (off + size)) rest else none

/-- Cells as told and as they are. -/
def CellsR (R : C → Value → Prop) (cs : List C) (us : Array Value) : Prop := us.size = cs.length ∧ ∀ (j : Nat) (c : C), cs[j]? = some c → ∃ u, us[j]? = some u ∧ R c u
theorem splice_get {α : Type} {l m : List α} {off k : Nat} (h : off + m.length ≤ l.length) : (l.take off ++ m ++ l.drop (off + m.length))[k]? = if off ≤ k ∧ k < off + m.length then m[k - off]? else l[k]? := by
  have hlt : (l.take off).length = off := by simp; omega
  by_cases hk : off ≤ k ∧ k < off + m.length
  · rw [if_pos hk, List.append_assoc, List.getElem?_append_right (by omega), hlt, List.getElem?_append_left (by omega)]
  · rw [if_neg hk]
    by_cases h2 : k < off
    · rw [List.append_assoc, List.getElem?_append_left (by omega), List.getElem?_take, if_pos h2]
    · rw [List.getElem?_append_right (by simp; omega), List.getElem?_drop]
      congr 1
      simp only [List.length_append, hlt]
      omega
theorem fill_rel {R : C → Value → Prop} {place : Nat → Option (Nat × Nat)} : ∀ {parts : List (Nat × List C)} {vals : List (Nat × Value)} {cs r : List C} {us : Array Value}, fillC place cs parts = some r → CellsR R cs us →
    All2 (fun p v => p.1 = v.1 ∧ CellsR R p.2 v.2.cells) parts vals → ∃ us', Instr.fill place us vals = some us' ∧ CellsR R r us'
  | [], [], cs, r, us, h, hc, _ => by
    simp [fillC] at h
    subst h
    exact ⟨us, rfl, hc⟩
  | (i, ps) :: parts, (i', v) :: vals, cs, r, us, h, hc, ha => by
    obtain ⟨⟨hi, hps⟩, ha⟩ := ha
    simp only at hi hps
    subst hi
    unfold fillC at h
    unfold Instr.fill
    cases hp : place i with
    | none => simp [hp] at h
    | some os =>
      obtain ⟨off, size⟩ := os
      simp only [hp] at h ⊢
      cases hq : (Nat.beq ps.length size && Nat.ble (off + size) cs.length) with
      | false => rw [hq] at h; cases h
      | true =>
        rw [hq] at h
        simp only [cond_true] at h
        obtain ⟨q1, q2⟩ := Bool.and_eq_true_iff.1 hq
        have q1 := Nat.eq_of_beq_eq_true q1
        have q2 := Nat.le_of_ble_eq_true q2
        subst q1
        rw [if_neg (by rw [hps.1, hc.1]; simp; omega)]
        have hz : v.cells.zipIdx.foldl (fun cs (x : Value × Nat) => cs.setIfInBounds (off + x.2) x.1) us = (v.cells.toList.zipIdx 0).foldl (fun cs (x : Value × Nat) => cs.setIfInBounds (off + x.2) x.1) us := by
          rw [← Array.foldl_toList, Array.toList_zipIdx]
        obtain ⟨f1, f2⟩ := Go.Great.foldl_set off v.cells.toList 0 us
        have hz' : (v.cells.zipIdx.foldl (fun cs x => match x with | (c, j) => cs.setIfInBounds (off + j) c) us) = (v.cells.toList.zipIdx 0).foldl (fun cs (x : Value × Nat) => cs.setIfInBounds (off + x.2) x.1) us := hz
        rw [hz']
        refine fill_rel h ⟨?_, fun j c hj => ?_⟩ ha
        · rw [f1, hc.1]
          simp only [List.length_append, List.length_take, List.length_drop]
          omega
        · have hvl : v.cells.toList.length = ps.length := by simpa using hps.1
          rw [splice_get q2] at hj
          rw [f2 j]
          simp only [Nat.add_zero, hvl]
          split at hj
          · rename_i hr
            rw [if_pos ⟨hr.1, hr.2, by rw [hc.1]; omega⟩]
            obtain ⟨u, hu, hcr⟩ := hps.2 _ c hj
            exact ⟨u, by simpa using hu, hcr⟩
          · rename_i hr
            rw [if_neg (fun hh => hr ⟨hh.1, hh.2.1⟩)]
            exact hc.2 j c hj
  | [], _ :: _, _, _, _, _, _, h => h.elim
  | _ :: _, [], _, _, _, _, _, h => h.elim


def SV.flat : SV → Option (List C)
  | .one c => some [c]
  | .ag cs => some cs
  | _ => none
theorem flat_cells {s : SV} {cs : List C} (h : s.flat = some cs) : s.cells = cs := by
  cases s <;> simp [SV.flat] at h <;> subst h <;> rfl
theorem agg_cells {n : Nat} {u : Value} (h : AggOK n u) : valCells u = u.cells.toList ∧ u.cells.toList.length = n ∧ ∀ v ∈ u.cells.toList, v.oneCell' = true := by
  obtain ⟨us, rfl, hl, h1⟩ := h
  exact ⟨rfl, by simpa [Value.cells] using hl, by simpa [Value.cells] using h1⟩
theorem shape_cells {s : SV} {cs : List C} {u : Value} (h : s.flat = some cs) (hs : ShapeOK s u) : valCells u = u.cells.toList ∧ u.cells.toList.length = cs.length ∧ ∀ v ∈ u.cells.toList, v.oneCell' = true := by
  cases s with
  | one c =>
    simp [SV.flat] at h
    subst h
    have h1 : u.oneCell' = true := hs
    have e : u.cells.toList = [u] := by rw [← val_one h1]; revert h1; cases u <;> simp [Value.oneCell', valCells]
    exact ⟨by rw [val_one h1, e], by rw [e]; rfl, by rw [e]; intro v hv; simp at hv; subst hv; exact h1⟩
  | ag cs' => simp [SV.flat] at h; subst h; exact agg_cells hs
  | tu xs => simp [SV.flat] at h
  | un => simp [SV.flat] at h

/-! ### Zero values -/
def C.ofZ (v : Value) : C := match constSV v with
  | .one c => c
  | _ => .any
theorem constSV_ok {w : World} {I : Nat → Prop} {g : Gh} {ob : Nat → Option Ob} {v : Value} {c : C} (h : constSV v = .one c) : CR w I g ob c v := by
  unfold constSV at h
  split at h
  · cases h; rfl
  · unfold u8C at h
    split at h
    · rename_i n he
      cases h
      show [Value.int .u8 _] = [Value.int .u8 _]
      rw [he]
    · cases h
  · cases h; rfl
  · cases h; show [_] = [strV _]; simp [strV]
  · cases h; rfl
  · cases h; rfl
  · cases h; rfl
  · cases h
theorem CR.ofZ {w : World} {I : Nat → Prop} {g : Gh} {ob : Nat → Option Ob} {v : Value} : CR w I g ob (C.ofZ v) v := by
  unfold C.ofZ
  split
  · rename_i h; exact constSV_ok h
  · trivial
def plainZ (zs : List Value) : Bool := zs.all Value.oneCell'

/-! ### Literals of structs -/
def partsC (ev : Operand → SV) : List (Nat × Operand) → Option (List (Nat × List C))
  | [] => some []
  | (i, x) :: r => match (ev x).flat, partsC ev r with
    | some cs, some ps => some ((i, cs) :: ps)
    | _, _ => none
theorem parts_rel [Glob] {K : Ctx} {w : World} {I : Nat → Prop} {g : Gh} {tm : Array Value} (hi : Inv K w I g σ tm) : ∀ {parts : List (Nat × Operand)} {ps : List (Nat × List C)}, partsC σ.ev parts = some ps →
    All2 (fun p v => p.1 = v.1 ∧ CellsR (fun c u => u.oneCell' = true ∧ CR w I g σ.objs c u) p.2 v.2.cells) ps (parts.map fun x => (x.1, Act.eval ⟨tm, []⟩ x.2))
  | [], ps, h => by simp [partsC] at h; subst h; trivial
  | (i, x) :: r, ps, h => by
    unfold partsC at h
    cases h1 : (σ.ev x).flat with
    | none => simp [h1] at h
    | some cs =>
      cases h2 : partsC σ.ev r with
      | none => simp [h1, h2] at h
      | some ps' =>
        simp [h1, h2] at h
        subst h
        refine ⟨⟨rfl, ?_⟩, parts_rel hi h2⟩
        obtain ⟨hs, hc⟩ := hi.ev x rfl
        obtain ⟨q1, q2, q3⟩ := shape_cells h1 hs
        refine ⟨by simpa using q2, fun j c hj => ?_⟩
        obtain ⟨u, hu, hr⟩ := hc j c (by rw [flat_cells h1]; exact hj)
        rw [q1] at hu
        exact ⟨u, by simpa using hu, q3 u (List.mem_of_getElem? hu), hr⟩
def evBuild (P : Program) (ty : TypeId) (ps : Option (List (Nat × List C))) : Option SV :=
  (fieldsB P ty).bind fun pl => (zeroB P ty).bind fun zs => bif plainZ zs then ps.bind fun ps => (fillC (fun (i : Nat) => pl[i]?) (zs.map C.ofZ) ps).map SV.ag else none
theorem evBuild_ok [Glob] {o : Oper} {ty : TypeId} {parts : Array (Nat × Operand)} {s : SV} (ho : o.op = .build ty parts) (h : evBuild P ty (partsC σ.ev parts.toList) = some s) : PureOK P σ o True s := by
  intro K w I g tm hi _
  simp only [evBuild, Option.bind_eq_some_iff] at h
  obtain ⟨pl, hpl, zs, hz, h⟩ := h
  cases hp : plainZ zs with
  | false => rw [hp] at h; cases h
  | true =>
    rw [hp] at h
    simp only [cond_true, Option.bind_eq_some_iff, Option.map_eq_some_iff] at h
    obtain ⟨ps, hps, cs, hf, rfl⟩ := h
    unfold zeroB at hz
    cases hinf : P.info? ty with
    | none => simp [hinf] at hz
    | some inf =>
      cases hzz : inf.zero with
      | none => simp [hinf, hzz] at hz
      | some z =>
        simp [hinf, hzz] at hz
        have hz0 : CellsR (fun c u => u.oneCell' = true ∧ CR w I g σ.objs c u) (zs.map C.ofZ) z.cells := by
          refine ⟨by rw [← hz]; simp, fun j c hj => ?_⟩
          simp only [List.getElem?_map, Option.map_eq_some_iff] at hj
          obtain ⟨v, hv, rfl⟩ := hj
          exact ⟨v, by rw [← hz] at hv; simpa using hv, List.all_eq_true.1 hp v (List.mem_of_getElem? hv), CR.ofZ⟩
        obtain ⟨us, hfill, hus⟩ := fill_rel hf hz0 (parts_rel hi hps)
        unfold fieldsB at hpl
        cases hu : P.underlying ty with
        | none => simp [hu] at hpl
        | some d =>
          cases d with
          | struct fs =>
            simp only [hu] at hpl
            have hplaces : (fs.mapM fun f => do pure (f.offset, ← sizeOf f.type) : Sem (Array (Nat × Nat))).run P w = .ok pl.toArray w := by
              have e : fs = fs.toList.toArray := by simp
              rw [e, List.mapM_toArray]
              simp only [Sem.run_map]
              rw [run_placesB hpl w]
              rfl
            have h1 : ∀ v ∈ us.toList, v.oneCell' = true := by
              intro v hv
              obtain ⟨j, hj⟩ := List.mem_iff_getElem?.1 hv
              have hlt : j < cs.length := by
                have := (List.getElem?_eq_some_iff.1 hj).1
                have := hus.1
                simp at *; omega
              obtain ⟨u, hu, h1, _⟩ := hus.2 j cs[j] (List.getElem?_eq_getElem hlt)
              have hj' : us[j]? = some v := by simpa using hj
              rw [hj'] at hu
              cases hu
              exact h1
            refine ⟨.agg us, ?_, ⟨us.toList, by simp, by simpa using hus.1, h1⟩, fun i c hc => ?_⟩
            · have hpm : (parts.map fun x => (x.1, Act.eval ⟨tm, []⟩ x.2)).toList = parts.toList.map fun x => (x.1, Act.eval ⟨tm, []⟩ x.2) := by simp
              have hgp : (fun (i : Nat) => pl.toArray[i]?) = fun (i : Nat) => pl[i]? := by funext i; simp
              rw [← hgp] at hfill
              have hrun : (Instr.build ty (parts.map fun x => (x.1, Act.eval ⟨tm, []⟩ x.2))).run P w = .ok (.agg us) w := by
                unfold Instr.build
                simp only [Sem.run_bind, run_zeroV hinf hzz, run_underlying hu, Result.andThen_ok]
                rw [hplaces]
                simp only [Result.andThen_ok, hpm]
                rw [show (fun (x : Nat) => pl.toArray[x]?) = (fun (i : Nat) => pl.toArray[i]?) from rfl, hfill]
                rfl
              simp [execOp, ho, hrun]
            · obtain ⟨u, hu, _, hr⟩ := hus.2 i c hc
              exact ⟨u, by simpa [valCells, Value.cells] using hu, hr⟩
          | _ => simp [hu] at hpl

/-! ### Parts -/
def evExtract (i : Nat) : SV → Option SV
  | .tu xs => match xs[i]? with
    | some (true, cs) => some (.ag cs)
    | some (false, [c]) => some (.one c)
    | _ => none
  | _ => none
theorem tu_get {w : World} {I : Nat → Prop} {g : Gh} {ob : Nat → Option Ob} : ∀ {xs : List (Bool × List C)} {vs : List Value}, All2 (fun x v => if x.1 = true then AggOK x.2.length v else v.oneCell' = true ∧ x.2.length = 1) xs vs →
    (∀ (j : Nat) (c : C), (xs.flatMap (·.2))[j]? = some c → ∃ u, (vs.flatMap fun v => v.cells.toList)[j]? = some u ∧ CR w I g ob c u) →
    ∀ {i : Nat} {x : Bool × List C}, xs[i]? = some x → ∃ v, vs[i]? = some v ∧ (if x.1 = true then AggOK x.2.length v else v.oneCell' = true ∧ x.2.length = 1) ∧ ∀ (j : Nat) (c : C), x.2[j]? = some c → ∃ u, v.cells.toList[j]? = some u ∧ CR w I g ob c u
  | [], _, _, _, i, x, h => by simp at h
  | y :: xs, [], h, _, _, _, _ => h.elim
  | y :: xs, v :: vs, h, hc, i, x, hx => by
    have hvl : v.cells.toList.length = y.2.length := by
      have := h.1
      simp only at this
      split at this
      · exact (agg_cells this).2.1
      · obtain ⟨h1, h2⟩ := this
        rw [h2]
        revert h1
        cases v <;> simp [Value.oneCell', Value.cells]
    cases i with
    | zero =>
      simp at hx
      subst hx
      refine ⟨v, rfl, h.1, fun j c hj => ?_⟩
      have hlt := (List.getElem?_eq_some_iff.1 hj).1
      obtain ⟨u, hu, hr⟩ := hc j c (by rw [List.flatMap_cons, List.getElem?_append_left hlt]; exact hj)
      rw [List.flatMap_cons, List.getElem?_append_left (by omega)] at hu
      exact ⟨u, hu, hr⟩
    | succ i =>
      obtain ⟨v', h1, h2⟩ := tu_get h.2 (fun j c hj => by
        obtain ⟨u, hu, hr⟩ := hc (y.2.length + j) c (by rw [List.flatMap_cons, List.getElem?_append_right (by omega), Nat.add_sub_cancel_left]; exact hj)
        rw [List.flatMap_cons, List.getElem?_append_right (by omega), hvl, Nat.add_sub_cancel_left] at hu
        exact ⟨u, hu, hr⟩) (i := i) (x := x) (by simpa using hx)
      exact ⟨v', by simpa using h1, h2⟩
theorem evExtract_ok [Glob] {o : Oper} {x : Operand} {i : Nat} {s : SV} (ho : o.op = .extract x i) (h : evExtract i (σ.ev x) = some s) : PureOK P σ o True s := by
  intro K w I g tm hi _
  unfold evExtract at h
  split at h
  · rename_i xs hx
    obtain ⟨⟨vs, hv, hall⟩, hc⟩ := hi.ev x hx
    rw [hv] at hc
    cases hxi : xs[i]? with
    | none => rw [hxi] at h; cases h
    | some y =>
      obtain ⟨v, h1, h2, h3⟩ := tu_get hall (fun j c hj => hc j c hj) hxi
      rw [hxi] at h
      refine ⟨v, by simp [execOp, ho, hv, Instr.extract, h1], ?_⟩
      obtain ⟨b, cs⟩ := y
      cases b with
      | true =>
        cases h
        have h2 : AggOK cs.length v := by simpa using h2
        exact ⟨h2, fun j c hj => by rw [(agg_cells h2).1]; exact h3 j c hj⟩
      | false =>
        match cs, h, h2, h3 with
        | [c], h, h2, h3 =>
          cases h
          have h1 : v.oneCell' = true := by simpa using h2
          obtain ⟨u, hu, hr⟩ := h3 0 c rfl
          have : u = v := by
            revert h1 hu
            cases v <;> simp [Value.oneCell', Value.cells] <;> exact fun h => h.symm
          subst this
          exact shape_one h1 hr
  · cases h
/-- A field of a struct that is no variable. -/
def fldB (P : Program) (ty : TypeId) (f : Nat) : Option (Nat × TypeId) := match P.underlying ty with
  | some (.struct fs) => (fs[f]?).map fun fld => (fld.offset, fld.type)
  | _ => none
def evField (P : Program) (ty : TypeId) (f : Nat) : SV → Option SV
  | .ag cs => (fldB P ty f).bind fun x => match aggB P x.2, sizeB P x.2 with
    | some false, _ => (cs[x.1]?).map SV.one
    | some true, some n => bif Nat.ble (x.1 + n) cs.length then some (.ag ((cs.drop x.1).take n)) else none
    | _, _ => none
  | _ => none
theorem evField_ok [Glob] {o : Oper} {ty : TypeId} {x : Operand} {f : Nat} {s : SV} (ho : o.op = .field ty x f) (h : evField P ty f (σ.ev x) = some s) : PureOK P σ o True s := by
  intro K w I g tm hi _
  unfold evField at h
  split at h
  · rename_i cs hx
    simp only [Option.bind_eq_some_iff] at h
    obtain ⟨⟨off, fty⟩, hfl, h⟩ := h
    obtain ⟨hsh, hc⟩ := hi.ev x hx
    obtain ⟨us, hu, hl, h1⟩ := hsh
    rw [hu] at hc
    have hc' : ∀ (i : Nat) (c : C), cs[i]? = some c → ∃ v, us[i]? = some v ∧ CR w I g σ.objs c v := fun i c hi' => by simpa [valCells, Value.cells] using hc i c hi'
    unfold fldB at hfl
    split at hfl
    · rename_i fs hund
      simp only [Option.map_eq_some_iff, Prod.mk.injEq] at hfl
      obtain ⟨fld, hfld, rfl, rfl⟩ := hfl
      have hrun : ∀ v, (part fld.type us.toArray fld.offset).run P w = .ok v w → (execOp (Act.eval ⟨tm, []⟩) o).run P w = .ok (.value v) w := by
        intro v hv
        simp [execOp, ho, hu, Instr.field, run_underlying hund, hfld, asAgg, hv]
      split at h
      · rename_i hag
        simp only [Option.map_eq_some_iff] at h
        obtain ⟨c, hcc, rfl⟩ := h
        obtain ⟨v, hv, hr⟩ := hc' _ c hcc
        exact ⟨v, hrun v (by simp [part, run_isAgg hag, hv]), shape_one (h1 v (List.mem_of_getElem? hv)) hr⟩
      · rename_i n hag hsz
        cases hn : Nat.ble (fld.offset + n) cs.length with
        | false => rw [hn] at h; cases h
        | true =>
          rw [hn] at h
          cases h
          have hle := Nat.le_of_ble_eq_true hn
          have hle' : fld.offset + n ≤ cs.length := hle
          have ee : (us.toArray.extract fld.offset (fld.offset + n)) = ((us.drop fld.offset).take n).toArray := by
            apply Array.ext'
            simp [List.extract_eq_take_drop]
          refine ⟨.agg ((us.drop fld.offset).take n).toArray, hrun _ (by simp [part, run_isAgg hag, run_sizeB hsz, ee]), ⟨_, rfl, by simp; omega, fun v hv => h1 v (List.mem_of_mem_drop (List.mem_of_mem_take hv))⟩, fun i c hci => ?_⟩
          simp only [SV.cells] at hci
          rw [List.getElem?_take] at hci
          split at hci
          · rename_i hin
            rw [List.getElem?_drop] at hci
            obtain ⟨v, hv, hr⟩ := hc' _ c hci
            refine ⟨v, ?_, hr⟩
            simp only [valCells, Value.cells, List.getElem?_take, if_pos hin, List.getElem?_drop]
            exact hv
          · cases hci
      · cases h
    · cases hfl
  · cases h

/-! ### The smaller and the greater of two -/
theorem min_if (a b : Int) : (if b < a then b else a) = min a b := by split <;> omega
theorem max_if (a b : Int) : (if b > a then b else a) = max a b := by split <;> omega
def evMin : SV → SV → Option SV
  | .one (.d (.i k) a), .one (.d (.i _) b) => some (.one (.d (.i k) (min a b : Int)))
  | _, _ => none
def evMax : SV → SV → Option SV
  | .one (.d (.i k) a), .one (.d (.i _) b) => some (.one (.d (.i k) (max a b : Int)))
  | _, _ => none
theorem evMin_ok [Glob] {o : Oper} {tys : Array TypeId} {x y : Operand} {s : SV} (ho : o.op = .call { callee := .builtin .min, args := #[x, y], argTypes := tys }) (h : evMin (σ.ev x) (σ.ev y) = some s) : PureOK P σ o True s := by
  unfold evMin at h
  split at h
  · rename_i k a k' b hx hy
    cases h
    refine .i fun K w I g tm hi _ => ?_
    have e := min_if a b
    simp [execOp, ho, resolve, invoke, builtin, Builtin.min_, Builtin.min2, hi.ev_i hx, hi.ev_i hy, e]
  · cases h
theorem evMax_ok [Glob] {o : Oper} {tys : Array TypeId} {x y : Operand} {s : SV} (ho : o.op = .call { callee := .builtin .max, args := #[x, y], argTypes := tys }) (h : evMax (σ.ev x) (σ.ev y) = some s) : PureOK P σ o True s := by
  unfold evMax at h
  split at h
  · rename_i k a k' b hx hy
    cases h
    refine .i fun K w I g tm hi _ => ?_
    have e := max_if a b
    simp [execOp, ho, resolve, invoke, builtin, Builtin.max_, Builtin.max2, hi.ev_i hx, hi.ev_i hy, e]
  · cases h
end Go.LX

