/- The operations that make no memory and write none: what they leave in their slot. -/
import Derived.Test.YtbebnlhgnbnjoaaAxCode
import Derived.Laws.Cells
import Derived.Laws.Entries
namespace Go.AX

variable {P : Program} {σ : St}

def C.asView (p : Pl) : C → C
  | .ow _ _ _ rs => .vw p true rs
  | c => c
def asViews (bx : Bool) (t : Nat) : Nat → List C → List C
  | _, [] => []
  | i, c :: cs => c.asView ⟨bx, t, i⟩ :: asViews bx t (i + 1) cs
def SV.asView (t : Nat) : SV → SV
  | .one c => .one (c.asView ⟨false, t, 0⟩)
  | .ag cs => .ag (asViews false t 0 cs)
  | _ => .un
/-- An operand's value as another may hold it: what its slot owns is seen, not taken. -/
def St.evv (σ : St) : Operand → SV
  | .tmp t => (σ.slots t).asView t
  | x => σ.ev x

theorem asViews_len {bx : Bool} {t : Nat} : ∀ {i : Nat} {cs : List C}, (asViews bx t i cs).length = cs.length
  | _, [] => rfl
  | _, _ :: _ => congrArg (· + 1) asViews_len
theorem asViews_get {bx : Bool} {t : Nat} : ∀ {i j : Nat} {cs : List C} {c : C}, (asViews bx t i cs)[j]? = some c → ∃ c0, cs[j]? = some c0 ∧ c = c0.asView ⟨bx, t, i + j⟩
  | _, _, [], _, h => by simp [asViews] at h
  | i, 0, c0 :: cs, c, h => by simp [asViews] at h; exact ⟨c0, rfl, h.symm⟩
  | i, j + 1, c0 :: cs, c, h => by
    obtain ⟨c1, h1, h2⟩ := asViews_get (i := i + 1) (j := j) (cs := cs) (c := c) (by simpa [asViews] using h)
    exact ⟨c1, by simpa using h1, by rw [h2]; congr 2; omega⟩

theorem asView_isOw (p : Pl) (c : C) : (c.asView p).isOw = false := by cases c <;> rfl

/-- What is not owned means the same at any place. -/
theorem CR.pl {w : World} {I : Nat → Prop} {g : Gh} {tm : Array Value} {pl pl' : Pl} {c : C} {u : Value} (h : CR w I g σ tm pl c u) (hc : c.isOw = false) : CR w I g σ tm pl' c u := by
  cases c <;> first | exact h | (simp [C.isOw] at hc)

theorem CR.view {w : World} {I : Nat → Prop} {g : Gh} {tm : Array Value} {p pl : Pl} {c : C} {u : Value} (h : CR w I g σ tm p c u) (hr : realAt w g tm p = some u) (ha : σ.absAt p = some c) : CR w I g σ tm pl (c.asView p) u := by
  cases c with
  | ow e size k rs => exact ⟨ROT.rd h.1, fun _ => ⟨hr, e, size, k, ha⟩⟩
  | _ => exact h

theorem Inv.evv {K : Ctx} {w : World} {I : Nat → Prop} {g : Gh} {tm : Array Value} (h : Inv K w I g σ tm) (x : Operand) {s : SV} (hx : σ.evv x = s) : ShapeOK s (Act.eval ⟨tm, []⟩ x) ∧
    ∀ (i : Nat) (c : C), s.cells[i]? = some c → c.isOw = false ∧ ∃ u, (valCells (Act.eval ⟨tm, []⟩ x))[i]? = some u ∧ ∀ pl, CR w I g σ tm pl c u := by
  have other : (∀ t, x ≠ .tmp t) → σ.ev x = s → ShapeOK s (Act.eval ⟨tm, []⟩ x) ∧ ∀ (i : Nat) (c : C), s.cells[i]? = some c → c.isOw = false ∧ ∃ u, (valCells (Act.eval ⟨tm, []⟩ x))[i]? = some u ∧ ∀ pl, CR w I g σ tm pl c u := by
    intro hne he
    obtain ⟨h1, h2⟩ := h.ev x he
    refine ⟨h1, fun i c hc => ?_⟩
    obtain ⟨u, hu, pl, hr, ho⟩ := h2 i c hc
    have : c.isOw = false := by
      cases hq : c.isOw with
      | false => rfl
      | true => obtain ⟨t, e, _⟩ := ho hq; exact absurd e (hne t)
    exact ⟨this, u, hu, fun pl' => hr.pl this⟩
  cases x with
  | tmp t =>
    subst hx
    have hs := h.shape t
    have hc := h.slot t
    have hev : Act.eval ⟨tm, []⟩ (.tmp t) = tm.getD t undef := rfl
    have hab : ∀ (i : Nat) (c : C), (σ.slots t).cells[i]? = some c → σ.absAt ⟨false, t, i⟩ = some c := fun i c hi => by simp [St.absAt, hi]
    have hre : ∀ (i : Nat) (u : Value), (valCells (tm.getD t undef))[i]? = some u → realAt w g tm ⟨false, t, i⟩ = some u := fun i u hu => by unfold realAt; rw [if_neg (by simp)]; exact hu
    rw [hev]
    simp only [St.evv]
    cases hsl : σ.slots t with
    | one c =>
      rw [hsl] at hs hc hab
      refine ⟨hs, fun i c' hi => ?_⟩
      cases i with
      | succ i => simp [SV.asView, SV.cells] at hi
      | zero =>
        simp [SV.asView, SV.cells] at hi
        subst hi
        obtain ⟨u, hu, hr⟩ := hc 0 c rfl
        exact ⟨asView_isOw _ _, u, hu, fun pl => hr.view (hre 0 u hu) (hab 0 c rfl)⟩
    | ag cs =>
      rw [hsl] at hs hc hab
      obtain ⟨us, hus, hl⟩ := hs
      refine ⟨⟨us, hus, by rw [hl, asViews_len]⟩, fun i c' hi => ?_⟩
      obtain ⟨c0, h0, rfl⟩ := asViews_get (i := 0) hi
      obtain ⟨u, hu, hr⟩ := hc i c0 h0
      rw [Nat.zero_add]
      exact ⟨asView_isOw _ _, u, hu, fun pl => hr.view (hre i u hu) (hab i c0 h0)⟩
    | tu xs => exact ⟨trivial, fun i c' hi => by simp [SV.asView, SV.cells] at hi⟩
    | un => exact ⟨trivial, fun i c' hi => by simp [SV.asView, SV.cells] at hi⟩
  | const v => exact other (by simp) hx
  | global n => exact other (by simp) hx
  | func f => exact other (by simp) hx

/-- An operation that leaves the world alone and yields v. -/
theorem OpW_put {o : Oper} {t : Nat} {s : SV} {N : St → Prop} (hd : o.dst = some t) (ht : Nat.blt t σ.n = true) (h0 : (σ.slots t).noOw = true)
    (h : ∀ (K : Ctx) (w : World) (I : Nat → Prop) (g : Gh) (tm : Array Value), Inv K w I g σ tm → ∃ v, (execOp (Act.eval ⟨tm, []⟩) o).run P w = .ok (.value v) w ∧ ShapeOK s v ∧
      ∀ i c, s.cells[i]? = some c → ∃ u, (valCells v)[i]? = some u ∧ CR w I g σ tm ⟨false, t, i⟩ c u)
    (hN : N (σ.put t s)) : OpW P o N σ := by
  intro K w I g tm hi
  obtain ⟨v, hr, hs, hc⟩ := h K w I g tm hi
  rw [hr]
  simp only [Oper.upon, Act.put, hd]
  exact ⟨trivial, _, I, g, hN, hi.put (Nat.le_of_ble_eq_true ht) h0 hs hc⟩

theorem OpW_scal {o : Oper} {t : Nat} {r : Value} {N : St → Prop} (hd : o.dst = some t) (ht : Nat.blt t σ.n = true) (h0 : (σ.slots t).noOw = true) (hs : scal r = true)
    (h : ∀ (K : Ctx) (w : World) (I : Nat → Prop) (g : Gh) (tm : Array Value), Inv K w I g σ tm → (execOp (Act.eval ⟨tm, []⟩) o).run P w = .ok (.value r) w)
    (hN : N (σ.put t (.one (.d (.v r))))) : OpW P o N σ := by
  refine OpW_put hd ht h0 (fun K w I g tm hi => ⟨r, h K w I g tm hi, ?_, fun i c hc => ?_⟩) hN
  · cases r <;> simp_all [scal, ShapeOK, Value.oneCell']
  · cases i with
    | succ i => simp [SV.cells] at hc
    | zero =>
      simp [SV.cells] at hc
      subst hc
      refine ⟨r, ?_, Rd.v.2 ⟨rfl, hs⟩⟩
      cases r <;> simp_all [scal, valCells, Value.cells]

theorem op_move {o : Oper} {t : Nat} {x : Operand} {N : St → Prop} (ho : o.op = .move x ∨ o.op = .assign x) (hd : o.dst = some t) (ht : Nat.blt t σ.n = true) (h0 : (σ.slots t).noOw = true) (hN : N (σ.put t (σ.evv x))) : OpW P o N σ := by
  refine OpW_put hd ht h0 (fun K w I g tm hi => ?_) hN
  obtain ⟨h1, h2⟩ := hi.evv x rfl
  refine ⟨_, ?_, h1, fun i c hc => ?_⟩
  · rcases ho with ho | ho <;> simp [execOp, ho]
  · obtain ⟨_, u, hu, hr⟩ := h2 i c hc
    exact ⟨u, hu, hr _⟩

/-- Arithmetic and comparison on whole numbers. -/
def binR (op : BinOp) (k : IntKind) (a b : Int) : Option Value :=
  match op with
  | .add => some (.int k (k.wrap (a + b)))
  | .sub => some (.int k (k.wrap (a - b)))
  | .mul => some (.int k (k.wrap (a * b)))
  | .quo => if b = 0 then none else some (.int k (k.wrap (a.tdiv b)))
  | .rem => if b = 0 then none else some (.int k (a.tmod b))
  | .eql => some (.bool (a == b))
  | .neq => some (.bool (a != b))
  | .lss => some (.bool (decide (a < b)))
  | .leq => some (.bool (decide (a ≤ b)))
  | .gtr => some (.bool (decide (a > b)))
  | .geq => some (.bool (decide (a ≥ b)))
  | .and => some (.int k (k.wrap (BitVec.ofInt k.bits a &&& BitVec.ofInt k.bits b).toNat))
  | .or => some (.int k (k.wrap (BitVec.ofInt k.bits a ||| BitVec.ofInt k.bits b).toNat))
  | _ => none

theorem op_bin {o : Oper} {t : Nat} {op : BinOp} {ty ty' : TypeId} {x y : Operand} {k : IntKind} {a b : Int} {r : Value} {N : St → Prop} (ho : o.op = .binOp op ty x y ty') (hd : o.dst = some t) (ht : Nat.blt t σ.n = true) (h0 : (σ.slots t).noOw = true)
    (hx : σ.ev x = .one (.d (.v (.int k a)))) (hy : σ.ev y = .one (.d (.v (.int k b)))) (hr : binR op k a b = some r) (hN : N (σ.put t (.one (.d (.v r))))) : OpW P o N σ := by
  have hs : scal r = true := by
    unfold binR at hr
    split at hr <;> (try split at hr) <;> first | (cases hr; rfl) | cases hr
  refine OpW_scal hd ht h0 hs (fun K w I g tm hi => ?_) hN
  have e1 := hi.ev_v hx
  have e2 := hi.ev_v hy
  cases op <;> simp only [binR] at hr <;> (try cases hr) <;> (try (split at hr <;> cases hr)) <;>
    simp_all [execOp, eqGuard, binOp, Op.intArith, Op.intDiv, Op.intCmp, Op.intBits]

theorem op_shift {o : Oper} {t : Nat} {op : BinOp} {ty ty' : TypeId} {x y : Operand} {k k' : IntKind} {a b : Int} {r : Value} {N : St → Prop} (ho : o.op = .binOp op ty x y ty') (hd : o.dst = some t) (ht : Nat.blt t σ.n = true) (h0 : (σ.slots t).noOw = true)
    (hx : σ.ev x = .one (.d (.v (.int k a)))) (hy : σ.ev y = .one (.d (.v (.int k' b)))) (hb : 0 ≤ b)
    (hr : (op = .shl ∧ r = .int k (k.wrap (a * 2 ^ min b.toNat k.bits))) ∨ (op = .shr ∧ r = .int k (a.fdiv (2 ^ min b.toNat k.bits)))) (hN : N (σ.put t (.one (.d (.v r))))) : OpW P o N σ := by
  have hs : scal r = true := by rcases hr with ⟨_, rfl⟩ | ⟨_, rfl⟩ <;> rfl
  refine OpW_scal hd ht h0 hs (fun K w I g tm hi => ?_) hN
  have e1 := hi.ev_v hx
  have e2 := hi.ev_v hy
  have hb' : ¬ b < 0 := by omega
  rcases hr with ⟨rfl, rfl⟩ | ⟨rfl, rfl⟩ <;> simp [execOp, eqGuard, binOp, Op.shift, ho, e1, e2, hb']

theorem op_not {o : Oper} {t : Nat} {ty : TypeId} {x : Operand} {b : Bool} {N : St → Prop} (ho : o.op = .unOp .not ty x) (hd : o.dst = some t) (ht : Nat.blt t σ.n = true) (h0 : (σ.slots t).noOw = true)
    (hx : σ.ev x = .one (.d (.v (.bool b)))) (hN : N (σ.put t (.one (.d (.v (.bool !b)))))) : OpW P o N σ := by
  refine OpW_scal hd ht h0 rfl (fun K w I g tm hi => ?_) hN
  simp [execOp, ho, hi.ev_v hx, Op.unary]
theorem op_neg {o : Oper} {t : Nat} {ty : TypeId} {x : Operand} {k : IntKind} {a : Int} {N : St → Prop} (ho : o.op = .unOp .neg ty x) (hd : o.dst = some t) (ht : Nat.blt t σ.n = true) (h0 : (σ.slots t).noOw = true)
    (hx : σ.ev x = .one (.d (.v (.int k a)))) (hN : N (σ.put t (.one (.d (.v (.int k (k.wrap (0 - a)))))))) : OpW P o N σ := by
  refine OpW_scal hd ht h0 rfl (fun K w I g tm hi => ?_) hN
  simp [execOp, ho, hi.ev_v hx, Op.unary, Op.intArith]

theorem op_pick {o : Oper} {t : Nat} {c a b : Operand} {q : Bool} {N : St → Prop} (ho : o.op = .pick c a b) (hd : o.dst = some t) (ht : Nat.blt t σ.n = true) (h0 : (σ.slots t).noOw = true)
    (hc : σ.ev c = .one (.d (.v (.bool q)))) (h1 : q = true → N (σ.put t (σ.evv a))) (h2 : q = false → N (σ.put t (σ.evv b))) : OpW P o N σ := by
  cases q with
  | true =>
    refine OpW_put hd ht h0 (fun K w I g tm hi => ?_) (h1 rfl)
    obtain ⟨e1, e2⟩ := hi.evv a rfl
    refine ⟨_, ?_, e1, fun i c hc => ?_⟩
    · simp [execOp, ho, hi.ev_v hc, asBool]
    · obtain ⟨_, u, hu, hr⟩ := e2 i c hc
      exact ⟨u, hu, hr _⟩
  | false =>
    refine OpW_put hd ht h0 (fun K w I g tm hi => ?_) (h2 rfl)
    obtain ⟨e1, e2⟩ := hi.evv b rfl
    refine ⟨_, ?_, e1, fun i c hc => ?_⟩
    · simp [execOp, ho, hi.ev_v hc, asBool]
    · obtain ⟨_, u, hu, hr⟩ := e2 i c hc
      exact ⟨u, hu, hr _⟩

theorem op_conv {o : Oper} {t : Nat} {src dst : TypeId} {x : Operand} {ds : TypeDesc} {k k' : IntKind} {a : Int} {N : St → Prop} (ho : o.op = .convert src dst x) (hd : o.dst = some t) (ht : Nat.blt t σ.n = true) (h0 : (σ.slots t).noOw = true)
    (hsrc : P.underlying src = some ds) (hdst : P.underlying dst = some (.int k)) (hx : σ.ev x = .one (.d (.v (.int k' a)))) (hN : N (σ.put t (.one (.d (.v (.int k (k.wrap a))))))) : OpW P o N σ := by
  refine OpW_scal hd ht h0 rfl (fun K w I g tm hi => ?_) hN
  simp [execOp, ho, hi.ev_v hx, convert, run_underlying hsrc, run_underlying hdst, Conv.intToInt]

/-- The rows of what is a slice. -/
def C.rows : C → Option (List (List D))
  | .d (.sl rs) => some rs
  | .ow _ _ _ rs => some rs
  | .vw _ _ rs => some rs
  | .nl => some []
  | _ => none
theorem CR.slice {w : World} {I : Nat → Prop} {g : Gh} {tm : Array Value} {pl : Pl} {c : C} {u : Value} {rs : List (List D)} (h : CR w I g σ tm pl c u) (hc : c.rows = some rs) : ∃ S, Rd w S (.sl rs) u := by
  cases c with
  | d x => cases x <;> simp [C.rows] at hc; subst hc; exact ⟨_, h⟩
  | ow e size k rs' => simp [C.rows] at hc; subst hc; exact ⟨_, ROT.rd h.1⟩
  | vw p wh rs' => simp [C.rows] at hc; subst hc; exact ⟨_, h.1⟩
  | nl => simp [C.rows] at hc; subst hc; exact ⟨fun _ => True, Rd.sl_iff.2 ⟨none, 0, h, Nat.le_refl _, Nat.zero_le _, fun i row hr => by simp at hr⟩⟩
  | _ => simp [C.rows] at hc

theorem Inv.ev_one {K : Ctx} {w : World} {I : Nat → Prop} {g : Gh} {tm : Array Value} (h : Inv K w I g σ tm) {x : Operand} {c : C} (hx : σ.ev x = .one c) : ∃ pl, CR w I g σ tm pl c (Act.eval ⟨tm, []⟩ x) ∧ (Act.eval ⟨tm, []⟩ x).oneCell' = true ∧ (c.isOw = true → ∃ t, x = .tmp t ∧ pl = ⟨false, t, 0⟩) := by
  obtain ⟨hs, hc⟩ := h.ev x hx
  obtain ⟨u, hu, pl, hr, ho⟩ := hc 0 _ rfl
  have h1 : (Act.eval ⟨tm, []⟩ x).oneCell' = true := hs
  have : valCells (Act.eval ⟨tm, []⟩ x) = [Act.eval ⟨tm, []⟩ x] := by
    revert h1
    cases Act.eval ⟨tm, []⟩ x <;> simp [Value.oneCell', valCells, Value.cells]
  rw [this] at hu
  simp at hu
  subst hu
  exact ⟨pl, hr, h1, ho⟩

theorem op_len {o : Oper} {t : Nat} {ty e : TypeId} {x : Operand} {c : C} {rs : List (List D)} {N : St → Prop} (ho : o.op = .call { callee := .builtin .len, args := #[x], argTypes := #[ty] }) (hd : o.dst = some t) (ht : Nat.blt t σ.n = true) (h0 : (σ.slots t).noOw = true)
    (hty : P.underlying ty = some (.slice e)) (hx : σ.ev x = .one c) (hc : c.rows = some rs) (hN : N (σ.put t (.one (.d (.v (.int .i64 rs.length)))))) : OpW P o N σ := by
  refine OpW_scal hd ht h0 rfl (fun K w I g tm hi => ?_) hN
  obtain ⟨pl, hr, _, _⟩ := hi.ev_one hx
  obtain ⟨S, hS⟩ := hr.slice hc
  obtain ⟨A, cap, hu, _⟩ := Rd.sl_iff.1 hS
  simp [execOp, ho, resolve, invoke, builtin, Builtin.len_, hu, run_underlying hty, goInt]

theorem op_len_str {o : Oper} {t : Nat} {ty : TypeId} {x : Operand} {s : ByteArray} {N : St → Prop} (ho : o.op = .call { callee := .builtin .len, args := #[x], argTypes := #[ty] }) (hd : o.dst = some t) (ht : Nat.blt t σ.n = true) (h0 : (σ.slots t).noOw = true)
    (hty : P.underlying ty = some .string) (hx : σ.ev x = .one (.d (.v (.string s)))) (hN : N (σ.put t (.one (.d (.v (.int .i64 s.size)))))) : OpW P o N σ := by
  refine OpW_scal hd ht h0 rfl (fun K w I g tm hi => ?_) hN
  simp [execOp, ho, resolve, invoke, builtin, Builtin.len_, hi.ev_v hx, run_underlying hty, goInt]

end Go.AX
