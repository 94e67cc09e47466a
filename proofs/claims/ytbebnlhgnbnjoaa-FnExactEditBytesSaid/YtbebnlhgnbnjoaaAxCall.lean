/- Calls: what a function does with plain data, its body, and its use. -/
import Derived.Test.YtbebnlhgnbnjoaaAxStore
namespace Go.AX

variable {P : Program} {σ : St}

/-- An argument: a struct by its cells, or one cell. -/
def argR (w : World) (S : Nat → Prop) : Bool × List D → Value → Prop
  | (true, ds), v => ∃ us : List Value, v = .agg us.toArray ∧ All2 (Rd w S) ds us
  | (false, [d]), v => Rd w S d v
  | _, _ => False

/-- A cell of a result. -/
def ResR (w : World) (I : Nat → Prop) (L : List Nat) : C → Value → Prop
  | .d x, u => Rd w I x u
  | .nl, u => u = .slice none 0 0
  | .ow e size k rs, u => ROT (RO w I k) w I e.ty size rs u L ∧ e.pin = none
  | .any, _ => True
  | _, _ => False

/-- The function f, handed plain data, returns r: all that r owns is new; what r reads alone is new or (alias) was handed in. -/
def FnOK (P : Program) (f : FuncId) (alias : Bool) (args : List (Bool × List D)) (r : SV) : Prop :=
  ∀ (w : World) (S : Nat → Prop) (vals : List Value), (∀ b, S b → b < w.heap.size) → All2 (argR w S) args vals →
    Calls P f vals.toArray w fun e w' => ∃ v, e = .returned v ∧ Go.RowKit.Below w.heap.size w w' ∧ ∃ (I' : Nat → Prop) (L : Nat → List Nat),
      (∀ b, I' b → b < w'.heap.size ∧ (b < w.heap.size → alias = true ∧ S b)) ∧
      (∀ i j b, b ∈ L i → b ∈ L j → i = j) ∧ (∀ i, (L i).Nodup) ∧ (∀ i b, b ∈ L i → ¬ I' b ∧ w.heap.size ≤ b ∧ b < w'.heap.size) ∧
      ShapeOK r v ∧ ∀ (i : Nat) (c : C), r.cells[i]? = some c → ∃ u, (valCells v)[i]? = some u ∧ ResR w' I' (L i) c u

/-! ### The body -/
def argSV : Bool × List D → SV
  | (true, ds) => .ag (ds.map .d)
  | (false, [d]) => .one (.d d)
  | _ => .un
def enterS : List (Bool × List D) → Nat → SV
  | [], _ => .un
  | a :: _, 0 => argSV a
  | _ :: r, t + 1 => enterS r t
def St.enter (n : Nat) (args : List (Bool × List D)) : St := ⟨n, enterS args, fun _ => none⟩

theorem enter_slot {w : World} {S : Nat → Prop} : ∀ {args : List (Bool × List D)} {vals : List Value}, All2 (argR w S) args vals → ∀ t, (enterS args t = .un) ∨ (∃ v, vals[t]? = some v ∧ ShapeOK (enterS args t) v ∧ ∀ (i : Nat) (c : C), (enterS args t).cells[i]? = some c → ∃ u, (valCells v)[i]? = some u ∧ ∃ d, c = .d d ∧ Rd w S d u)
  | [], _, _, _ => .inl rfl
  | _ :: _, [], h, _ => h.elim
  | a :: r, v :: vs, h, 0 => by
    have h1 := h.1
    rcases a with ⟨b, ds⟩
    cases b with
    | true =>
      obtain ⟨us, rfl, hall⟩ := h1
      refine .inr ⟨_, rfl, ⟨us, rfl, by rw [List.length_map]; exact hall.length.symm⟩, fun i c hc => ?_⟩
      simp only [enterS, argSV, SV.cells, List.getElem?_map, Option.map_eq_some_iff] at hc
      obtain ⟨d, hd, rfl⟩ := hc
      obtain ⟨u, hu, hr⟩ := hall.get hd
      exact ⟨u, by simpa [valCells, Value.cells] using hu, d, rfl, hr⟩
    | false =>
      match ds, h1 with
      | [d], h1 =>
        have h1' : Rd w S d v := h1
        have hone := h1'.oneCell
        refine .inr ⟨v, rfl, hone, fun i c hc => ?_⟩
        obtain ⟨rfl, rfl⟩ := one_cell hc
        exact ⟨v, by revert hone; cases v <;> simp [Value.oneCell', valCells, Value.cells], d, rfl, h1'⟩
  | _ :: r, _ :: vs, h, t + 1 => by
    rcases enter_slot h.2 t with h' | ⟨v, hv, h'⟩
    · exact .inl h'
    · exact .inr ⟨v, by simpa using hv, h'⟩

theorem Inv.enter {w : World} {S : Nat → Prop} {args : List (Bool × List D)} {vals : List Value} {n : Nat} (hS : ∀ b, S b → b < w.heap.size) (h : All2 (argR w S) args vals) (hn : args.length ≤ n) :
    Inv ⟨w, S, fun _ => False, fun _ _ => False⟩ w S ⟨fun _ => (0, 0), fun _ => []⟩ (St.enter n args) (vals.toArray ++ Array.replicate (n - vals.length) undef) := by
  have hl := h.length
  have hget : ∀ t v, vals[t]? = some v → (vals.toArray ++ Array.replicate (n - vals.length) undef).getD t undef = v := by
    intro t v hv
    have hlt : t < vals.length := (List.getElem?_eq_some_iff.1 hv).1
    simp [Array.getD_eq_getD_getElem?, Array.getElem?_append, hlt] at hv ⊢
    simp [hv]
  exact {
    fr := ⟨rfl, rfl, rfl, Nat.le_refl _, fun _ _ _ _ => rfl, fun _ _ _ _ _ => rfl, fun _ _ _ _ => rfl⟩
    size := by simp [St.enter]; omega
    imm0 := fun _ h => h
    immX := fun b hb => ⟨hS b hb, fun _ => .inl hb⟩
    dis := fun p q b hb => by cases hb
    nod := fun p => List.nodup_nil
    own := fun p b hb => by cases hb
    nil := fun _ _ => rfl
    boxd := fun o o' ho => by cases ho
    boxi := fun o ho => by cases ho
    boxc := fun o cs ho => by cases ho
    shape := fun t => by
      show ShapeOK (enterS args t) _
      rcases enter_slot h t with h' | ⟨v, hv, hs, _⟩
      · rw [h']; trivial
      · rw [hget t v hv]; exact hs
    slot := fun t i c hc => by
      rcases enter_slot h t with h' | ⟨v, hv, _, hs⟩
      · rw [show (St.enter n args).slots t = .un from h'] at hc; simp [SV.cells] at hc
      · obtain ⟨u, hu, d, rfl, hr⟩ := hs i c hc
        rw [hget t v hv]
        exact ⟨u, hu, hr⟩ }

/-- Down to depth k all is owned: below nothing is read in memory. -/
def okD : Nat → D → Prop
  | _, .v _ => True
  | k + 1, .sl rs => ∀ r ∈ rs, ∀ d ∈ r, okD k d
  | _, _ => False
theorem Rd.okAny {w : World} {S S' : Nat → Prop} {d : D} {u : Value} (h : Rd w S d u) (hv : ∃ x, d = .v x) : Rd w S' d u := by
  obtain ⟨x, rfl⟩ := hv; exact Rd.v.2 (Rd.v.1 h)
theorem OC.okAny {w : World} {I I' : Nat → Prop} {k : Nat} (ih : ∀ rs u L, (∀ r ∈ rs, ∀ d ∈ r, okD k d) → RO w I (k + 1) rs u L → RO w I' (k + 1) rs u L) : ∀ {ds : List D} {us : List Value} {L : List Nat}, (∀ d ∈ ds, okD (k + 1) d) → OC (RO w I (k + 1)) w I ds us L → OC (RO w I' (k + 1)) w I' ds us L
  | [], [], _, _, h => h
  | d :: ds, u :: us, L, hok, h => by
    obtain ⟨L1, L2, rfl, h1, h2⟩ := h
    refine ⟨L1, L2, rfl, ?_, OC.okAny ih (fun d hd => hok d (by simp [hd])) h2⟩
    have hd := hok d (by simp)
    cases d with
    | v x => exact ⟨h1.1, Rd.okAny h1.2 ⟨x, rfl⟩⟩
    | sl rs => exact ih rs u L1 hd h1
    | p cs => exact hd.elim
    | f fn caps => exact hd.elim
  | [], _ :: _, _, _, h => h.elim
  | _ :: _, [], _, _, h => h.elim
theorem OC.okAny0 {R R' : List (List D) → Value → List Nat → Prop} {w : World} {I I' : Nat → Prop} : ∀ {ds : List D} {us : List Value} {L : List Nat}, (∀ d ∈ ds, okD 0 d) → OC R w I ds us L → OC R' w I' ds us L
  | [], [], _, _, h => h
  | d :: ds, u :: us, L, hok, h => by
    obtain ⟨L1, L2, rfl, h1, h2⟩ := h
    refine ⟨L1, L2, rfl, ?_, OC.okAny0 (fun d hd => hok d (by simp [hd])) h2⟩
    have hd := hok d (by simp)
    cases d with
    | v x => exact ⟨h1.1, Rd.okAny h1.2 ⟨x, rfl⟩⟩
    | sl rs => exact hd.elim
    | p cs => exact hd.elim
    | f fn caps => exact hd.elim
  | [], _ :: _, _, _, h => h.elim
  | _ :: _, [], _, _, h => h.elim
theorem mem_flat {rs : List (List D)} {k : Nat} (h : ∀ r ∈ rs, ∀ d ∈ r, okD k d) : ∀ d ∈ rs.flatten, okD k d := by
  intro d hd
  obtain ⟨r, hr, hd⟩ := List.mem_flatten.1 hd
  exact h r hr d hd
theorem RO.okAny {w : World} {I I' : Nat → Prop} : ∀ {k : Nat} {rs : List (List D)} {u : Value} {L : List Nat}, (∀ r ∈ rs, ∀ d ∈ r, okD k d) → RO w I (k + 1) rs u L → RO w I' (k + 1) rs u L := by
  intro k
  induction k with
  | zero =>
    rintro rs u L hok ⟨e, size, xs, L', ho, hr, hc, rfl⟩
    exact ⟨e, size, xs, L', ho, hr, OC.okAny0 (mem_flat hok) hc, rfl⟩
  | succ k ih =>
    rintro rs u L hok ⟨e, size, xs, L', ho, hr, hc, rfl⟩
    exact ⟨e, size, xs, L', ho, hr, OC.okAny (fun rs u L h => ih h) (mem_flat hok) hc, rfl⟩
theorem ROT.okAny {w : World} {I I' : Nat → Prop} {k : Nat} {e : TypeId} {size : Nat} {rs : List (List D)} {u : Value} {L : List Nat} (hok : ∀ r ∈ rs, ∀ d ∈ r, okD k d) (h : ROT (RO w I k) w I e size rs u L) : ROT (RO w I' k) w I' e size rs u L := by
  obtain ⟨xs, L', ho, hr, hc, rfl⟩ := h
  cases k with
  | zero => exact ⟨xs, L', ho, hr, OC.okAny0 (mem_flat hok) hc, rfl⟩
  | succ k => exact ⟨xs, L', ho, hr, OC.okAny (fun rs u L h => RO.okAny h) (mem_flat hok) hc, rfl⟩

/-- The places and cells of a result. -/
def idx (bx : Bool) (id : Nat) : Nat → List C → List (Pl × C)
  | _, [] => []
  | i, c :: cs => (⟨bx, id, i⟩, c) :: idx bx id (i + 1) cs
def resOf (P : Program) (σ : St) : ResultVar → Option (Bool × List (Pl × C))
  | .tmp t => match σ.slots t with
    | .one c => some (false, [(⟨false, t, 0⟩, c)])
    | .ag cs => some (true, idx false t 0 cs)
    | _ => none
  | .cell a ty => match σ.slots a with
    | .one (.bp o c) => match σ.boxes o, aggB P ty, sizeB P ty with
      | some cs, some true, some n => if c + n ≤ cs.length then some (true, idx true o c ((cs.drop c).take n)) else none
      | some cs, some false, _ => (cs[c]?).map fun x => (false, [(⟨true, o, c⟩, x)])
      | _, _, _ => none
    | _ => none
def packS : List (Bool × List (Pl × C)) → SV
  | [(false, [x])] => .one x.2
  | [(true, xs)] => .ag (xs.map (·.2))
  | xs => .tu (xs.map fun x => (x.1, x.2.map (·.2)))
/-- May a cell be handed back? -/
def retC (alias : Bool) : C → Prop
  | .d x => alias = true ∨ ∃ v, x = .v v
  | .nl => True
  | .ow e _ k rs => (alias = true ∨ ∀ r ∈ rs, ∀ d ∈ r, okD k d) ∧ e.pin = none
  | .any => True
  | _ => False
def RetS (P : Program) (fn : Func) (alias : Bool) (r : SV) (σ : St) : Prop :=
  ∃ xs, fn.results.toList.mapM (resOf P σ) = some xs ∧ packS xs = r ∧ (∀ x ∈ xs, ∀ y ∈ x.2, retC alias y.2) ∧ ((xs.flatMap (·.2)).map (·.1)).Nodup
def RetQ (P : Program) (fn : Func) (alias : Bool) (r : SV) : Exit → St → Prop
  | .normal, σ => RetS P fn alias r σ
  | .ret, σ => RetS P fn alias r σ
  | _, _ => False

theorem idx_get {bx : Bool} {id : Nat} : ∀ {i j : Nat} {cs : List C} {x : Pl × C}, (idx bx id i cs)[j]? = some x → ∃ c, cs[j]? = some c ∧ x = (⟨bx, id, i + j⟩, c)
  | _, _, [], _, h => by simp [idx] at h
  | i, 0, c :: cs, x, h => by simp [idx] at h; exact ⟨c, rfl, h.symm⟩
  | i, j + 1, c :: cs, x, h => by
    obtain ⟨c', h1, h2⟩ := idx_get (i := i + 1) (j := j) (cs := cs) (x := x) (by simpa [idx] using h)
    exact ⟨c', by simpa using h1, by rw [h2]; congr 2; omega⟩
theorem idx_len {bx : Bool} {id : Nat} : ∀ {i : Nat} {cs : List C}, (idx bx id i cs).length = cs.length
  | _, [] => rfl
  | _, _ :: _ => congrArg (· + 1) idx_len

def resSem (tm : Array Value) : ResultVar → Sem Value
  | .tmp t => pure (tm.getD t undef)
  | .cell a ty => do loadVar ty (← asAddr (tm.getD a undef))
/-- One result: its value, and what its cells say. -/
theorem res_val {K : Ctx} {w : World} {I : Nat → Prop} {g : Gh} {tm : Array Value} (hi : Inv K w I g σ tm) {rv : ResultVar} {x : Bool × List (Pl × C)} (hx : resOf P σ rv = some x) :
    ∃ v, (resSem tm rv).run P w = .ok v w ∧
      (if x.1 = true then ∃ us : List Value, v = .agg us.toArray ∧ us.length = x.2.length else v.oneCell' = true ∧ x.2.length = 1) ∧
      ∀ (i : Nat) (y : Pl × C), x.2[i]? = some y → ∃ u, v.cells.toList[i]? = some u ∧ CR w I g σ tm y.1 y.2 u := by
  cases rv with
  | tmp t =>
    unfold resOf at hx
    have hs := hi.shape t
    have hc := hi.slot t
    cases hsl : σ.slots t with
    | one c =>
      simp only [hsl] at hx hs hc
      obtain rfl := Option.some.inj hx
      obtain ⟨u, hu, hr⟩ := hc 0 c rfl
      have h1 : (tm.getD t undef).oneCell' = true := hs
      refine ⟨_, rfl, by simpa using h1, fun i y hy => ?_⟩
      cases i with
      | succ i => simp at hy
      | zero =>
        simp at hy
        subst hy
        refine ⟨u, ?_, hr⟩
        revert h1 hu
        generalize tm.getD t undef = q
        cases q <;> simp [Value.oneCell', valCells, Value.cells]
    | ag cs =>
      simp only [hsl] at hx hs hc
      obtain rfl := Option.some.inj hx
      obtain ⟨us, hus, hl⟩ := hs
      refine ⟨_, rfl, by simp only [if_true, idx_len]; exact ⟨us, hus, hl⟩, fun i y hy => ?_⟩
      obtain ⟨c, h1, rfl⟩ := idx_get hy
      obtain ⟨u, hu, hr⟩ := hc i c h1
      rw [hus] at hu ⊢
      refine ⟨u, by simpa [valCells, Value.cells] using hu, ?_⟩
      rw [Nat.zero_add]; exact hr
    | tu xs => simp [hsl] at hx
    | un => simp [hsl] at hx
  | cell a ty =>
    unfold resOf at hx
    cases hsl : σ.slots a with
    | one c =>
      cases c with
      | bp o c =>
        simp only [hsl] at hx
        have hev : tm.getD a undef = .pointer (some ⟨(g.addr o).1, (g.addr o).2 + c, none⟩) := by
          obtain ⟨pl, hr, _, _⟩ := hi.ev_one (x := .tmp a) (c := .bp o c) hsl
          exact hr.1
        cases hb : σ.boxes o with
        | none => simp [hb] at hx
        | some cs =>
          cases hag : aggB P ty with
          | none => simp [hb, hag] at hx
          | some b =>
            cases b with
            | false =>
              simp only [hb, hag, Option.map_eq_some_iff] at hx
              obtain ⟨y, hy, rfl⟩ := hx
              obtain ⟨u, h1, _, h3, _, h5⟩ := hi.boxc o cs hb c y hy
              refine ⟨u, ?_, by simpa using h3, fun i z hz => ?_⟩
              · simp [resSem, hev, asAddr, run_loadVar_one hag h1]
              · cases i with
                | succ i => simp at hz
                | zero =>
                  simp at hz
                  subst hz
                  exact ⟨u, by revert h3; cases u <;> simp [Value.oneCell', Value.cells], h5⟩
            | true =>
              cases hsz : sizeB P ty with
              | none => simp [hb, hag, hsz] at hx
              | some n =>
                simp only [hb, hag, hsz] at hx
                split at hx
                · rename_i hle
                  obtain rfl := Option.some.inj hx
                  have hbx := hi.boxc o cs hb
                  have key : ∀ n, c + n ≤ cs.length → ∃ us : List Value, us.length = n ∧ ∀ j u, us[j]? = some u → w.cell? ⟨(g.addr o).1, (g.addr o).2 + c + j, none⟩ = some u ∧ ∃ cell, cs[c + j]? = some cell ∧ CR w I g σ tm ⟨true, o, c + j⟩ cell u := by
                    intro n
                    induction n with
                    | zero => exact fun _ => ⟨[], rfl, fun j u h => by simp at h⟩
                    | succ n ih =>
                      intro hn
                      obtain ⟨us, hul, hus⟩ := ih (by omega)
                      have hlt : c + n < cs.length := by omega
                      obtain ⟨u, h1, _, _, _, h5⟩ := hbx (c + n) cs[c + n] (List.getElem?_eq_getElem hlt)
                      refine ⟨us ++ [u], by simp [hul], fun j v hv => ?_⟩
                      rw [List.getElem?_append] at hv
                      split at hv
                      · exact hus j v hv
                      · have hj0 : j - us.length = 0 := by
                          cases hq : j - us.length with
                          | zero => rfl
                          | succ q => rw [hq] at hv; simp at hv
                        have hj : j = n := by omega
                        subst hj
                        rw [hul, Nat.sub_self] at hv
                        simp at hv
                        subst hv
                        exact ⟨by rw [Nat.add_assoc]; exact h1, _, List.getElem?_eq_getElem hlt, h5⟩
                  obtain ⟨us, hul, hus⟩ := key n hle
                  refine ⟨.agg us.toArray, ?_, ?_, fun i y hy => ?_⟩
                  · simp [resSem, hev, asAddr, run_loadVar_agg hag hsz hul fun j u h => (hus j u h).1]
                  · simp only [if_true, idx_len]
                    exact ⟨us, rfl, by rw [hul, List.length_take, List.length_drop]; omega⟩
                  · obtain ⟨c0, hc0, rfl⟩ := idx_get hy
                    rw [List.getElem?_take] at hc0
                    split at hc0
                    · rename_i hlt
                      rw [List.getElem?_drop] at hc0
                      have hiu : i < us.length := by omega
                      obtain ⟨_, cell, h2, h3⟩ := hus i us[i] (List.getElem?_eq_getElem hiu)
                      rw [hc0] at h2
                      obtain rfl := Option.some.inj h2
                      exact ⟨us[i], by simp [Value.cells, hiu], h3⟩
                    · cases hc0
                · cases hx
      | _ => simp [hsl] at hx
    | _ => simp [hsl] at hx

end Go.AX
