/- Calls as updates; loops by templates; bounds. -/
import Derived.Test.YtojaiockbpcilaaLxWalk
set_option linter.unusedVariables false
set_option linter.unusedSimpArgs false
namespace Go.LX

variable {P : Program} {σ : St}

theorem lookO_app {a b : List (Nat × SV)} {t : Nat} {d : SV} : lookO (a ++ b) t d = lookO a t (lookO b t d) := by
  induction a with
  | nil => rfl
  | cons x r ih => simp only [List.cons_append, lookO, ih]
theorem lookOB_app {a b : List (Nat × Option Ob)} {t : Nat} {d : Option Ob} : lookOB (a ++ b) t d = lookOB a t (lookOB b t d) := by
  induction a with
  | nil => rfl
  | cons x r ih => simp only [List.cons_append, lookOB, ih]
theorem over_over {us us' : List (Nat × SV)} {ub ub' : List (Nat × Option Ob)} : (σ.over us ub).over us' ub' = σ.over (us' ++ us) (ub' ++ ub) := by
  unfold St.over
  congr 1
  · funext t; exact lookO_app.symm
  · funext t; exact lookOB_app.symm
/-- New objects of a call. -/
def obL : Nat → List S0 → List (Nat × Option Ob)
  | _, [] => []
  | id, .own e t dp xs :: r => obL (id + 1) r ++ [(id, some (.rows e t dp xs))]
  | id, _ :: r => obL (id + 1) r
theorem enC_over : ∀ {ss : List S0} {id : Nat} {σ : St}, enC id ss σ = σ.over [] (obL id ss)
  | [], _, σ => by cases σ; rfl
  | .own e t dp xs :: r, id, σ => by
    show enC (id + 1) r (σ.setO id (.rows e t dp xs)) = _
    rw [enC_over, up_setO, over_over]; rfl
  | .d t x :: r, id, σ => enC_over (ss := r) (id := id + 1)
  | .any :: r, id, σ => enC_over (ss := r) (id := id + 1)
def dstU : Option Nat → SV → List (Nat × SV)
  | some t, s => [(t, s)]
  | none, _ => []
theorem putD_over {d : Option Nat} {s : SV} {ub : List (Nat × Option Ob)} : (σ.over [] ub).putD d s = σ.over (dstU d s) ub := by
  cases d with
  | none => rfl
  | some t => show (σ.over [] ub).put t s = _; rw [up_put, over_over]; rfl
theorem kills_over : ∀ {os : List Nat} {σ : St}, σ.kills os = σ.over [] ((os.reverse).map fun o => (o, some .dead))
  | [], σ => by cases σ; rfl
  | o :: os, σ => by
    show (σ.setO o .dead).kills os = _
    rw [kills_over, up_setO, over_over]; simp

/-- A call with data. -/
theorem callD [Glob] {o : Oper} {d : Option Nat} {f : FuncId} {xs : List Operand} {tys : Array TypeId} {args post : List SA} {res : RS} {id : Nat} {N : St → Prop} (a : Bool) (hF : FnC P f args post res) (ho : o.op = .call { callee := .value (.func f), args := xs.toArray, argTypes := tys }) (hd : o.dst = d) (ht : dstB σ.n d = true) (hf : fnB P f = true)
    (hargs : dPs a σ.objs args (xs.map σ.ev)) (hcl : (!a || res.cells.all S0.closed) = true) (hid : newR σ.objs d res.cells.length = some id) (hN : N (σ.over (dstU d (res.svN id)) (obL id res.cells))) : OpW P o N σ :=
  op_call a hF ho hd ht hf hargs hcl hid (by rw [enC_over, putD_over]; exact hN)
/-- The argument that is written. -/
def liveN : Nat → List SA → Option Nat
  | _, [] => none
  | k, .bx _ :: _ => some k
  | k, .c (.own ..) :: _ => some k
  | k, .ag ss :: r => bif ss.all S0.noOwn then liveN (k + 1) r else some k
  | k, _ :: r => liveN (k + 1) r
/-- A call with a slice that it may write. -/
theorem callO [Glob] {k : Nat} {o : Oper} {d : Option Nat} {f : FuncId} {xs : List Operand} {tys : Array TypeId} {args post : List SA} {res : RS} {id q : Nat} {x : Operand} {e : TypeId} {t : Ty} {ys : List t.T} {s' : S0} {N : St → Prop} (hF : FnC P f args post res) (_hk : liveN 0 args = some k) (ho : o.op = .call { callee := .value (.func f), args := xs.toArray, argTypes := tys }) (hd : o.dst = d) (ht : dstB σ.n d = true) (hf : fnB P f = true)
    (hk : args[k]? = some (.c (.own e t false ys))) (hx : xs[k]? = some x) (hv : σ.ev x = .one (.rf q .ar)) (hq : σ.objs q = some (.rows e t false ys)) (hargs : aPs σ.objs k args (xs.map σ.ev)) (hpk : post[k]? = some (.c s')) (hpb : poB t s' = true) (hpn : nOs k post = true)
    (hid : newR (σ.over [] [(q, some (obOf s'))]).objs d res.cells.length = some id) (hN : N (σ.over (dstU d (res.svN id)) (obL id res.cells ++ [(q, some (obOf s'))]))) : OpW P o N σ :=
  op_callO hF ho hd ht hf hk hx hv hq hargs hpk hpb hpn hid (by rw [enC_over, up_setO, over_over, List.append_nil, putD_over]; exact hN)
/-- A call with a struct, one of whose slices it may write. -/
def ownN : Nat → List C → Option Nat
  | _, [] => none
  | j, .rf _ .ar :: _ => some j
  | j, _ :: r => ownN (j + 1) r
theorem callA [Glob] {k : Nat} {o : Oper} {d : Option Nat} {f : FuncId} {xs : List Operand} {tys : Array TypeId} {args post : List SA} {res : RS} {id j q : Nat} {x : Operand} {e : TypeId} {t : Ty} {ys : List t.T} {ss ss' : List S0} {cs : List C} {s' : S0} {N : St → Prop} (hF : FnC P f args post res) (_hk : liveN 0 args = some k) (ho : o.op = .call { callee := .value (.func f), args := xs.toArray, argTypes := tys }) (hd : o.dst = d) (ht : dstB σ.n d = true) (hf : fnB P f = true)
    (hk : args[k]? = some (.ag ss)) (hx : xs[k]? = some x) (hv : σ.ev x = .ag cs) (hms : msPs σ.objs ss cs) (hos : msOs ss cs = [q]) (_hj : ownN 0 cs = some j) (hj : cs[j]? = some (.rf q .ar)) (hq : σ.objs q = some (.rows e t false ys)) (hargs : aPs σ.objs k args (xs.map σ.ev)) (hpk : post[k]? = some (.ag ss')) (hs' : ss'[j]? = some s') (hnj : nOc j ss' = true) (hpb : poB t s' = true) (hpn : nOs k post = true)
    (hid : newR (σ.over [] [(q, some (obOf s'))]).objs d res.cells.length = some id) (hN : N (σ.over (dstU d (res.svN id)) (obL id res.cells ++ [(q, some (obOf s'))]))) : OpW P o N σ :=
  op_callA hF ho hd ht hf hk hx hv hms hos hj hq hargs hpk hs' hnj hpb hpn hid (by rw [enC_over, up_setO, over_over, List.append_nil, putD_over]; exact hN)
/-- A call with a pointer to a box. -/
def boxU (q idb : Nat) (os : List Nat) (ss' : List S0) : List (Nat × Option Ob) := [(q, some (.cells (enL idb ss')))] ++ (obL idb ss' ++ ([(q, some (.cells (ss'.map fun _ => .any)))] ++ (os.reverse).map fun o => (o, some .dead)))
theorem boxed_over {q idb : Nat} {os : List Nat} {ss' : List S0} : σ.boxed q idb os ss' = σ.over [] (boxU q idb os ss') := by
  unfold St.boxed boxU
  rw [enC_over, up_setO, up_setO, kills_over, over_over, over_over, over_over]; simp
theorem callB [Glob] {k : Nat} {o : Oper} {d : Option Nat} {f : FuncId} {xs : List Operand} {tys : Array TypeId} {args post : List SA} {res : RS} {idb id q : Nat} {x : Operand} {ss ss' : List S0} {cs : List C} {os : List Nat} {N : St → Prop} (hF : FnC P f args post res) (_hk : liveN 0 args = some k) (ho : o.op = .call { callee := .value (.func f), args := xs.toArray, argTypes := tys }) (hd : o.dst = d) (ht : dstB σ.n d = true) (hf : fnB P f = true)
    (hk : args[k]? = some (.bx ss)) (hx : xs[k]? = some x) (hv : σ.ev x = .one (.rf q (.pb 0))) (hq : σ.objs q = some (.cells cs)) (hargs : aPs σ.objs k args (xs.map σ.ev)) (hms : msPs σ.objs ss cs) (hos : msOs ss cs = os) (hnd0 : nodB os = true) (hpos : Nat.blt 0 cs.length = true)
    (hpk : post[k]? = some (.bx ss')) (hpl : Nat.beq ss'.length cs.length = true) (hpn : nOs k post = true)
    (hidb : newR (σ.over [] ((os.reverse).map fun o => (o, some .dead))).objs d ss'.length = some idb) (hid : newR (σ.over [] (boxU q idb os ss')).objs d res.cells.length = some id) (hN : N (σ.over (dstU d (res.svN id)) (obL id res.cells ++ boxU q idb os ss'))) : OpW P o N σ :=
  op_callB hF ho hd ht hf hk hx hv hq hargs hms hos hnd0 hpos hpk hpl hpn (by rw [kills_over]; exact hidb) (by rw [boxed_over]; exact hid) (by rw [enC_over, boxed_over, over_over, List.append_nil, putD_over]; exact hN)

/-! ### Templates -/
def lookS : List (Nat × SV) → Nat → SV
  | [], _ => .un
  | x :: r, t => bif Nat.beq t x.1 then x.2 else lookS r t
def lookB : List (Nat × Ob) → Nat → Option Ob
  | [], _ => none
  | x :: r, t => bif Nat.beq t x.1 then some x.2 else lookB r t
def St.tmpl (n : Nat) (sl : List (Nat × SV)) (ob : List (Nat × Ob)) : St := ⟨n, lookS sl, lookB ob⟩
/-- A number's new name. -/
def rnO : List (Nat × Nat) → Nat → Nat
  | [], o => o
  | x :: r, o => bif Nat.beq o x.1 then x.2 else rnO r o
def rnC (ρ : List (Nat × Nat)) : C → C
  | .rf o r => .rf (rnO ρ o) r
  | .fc fn caps => .fc fn (caps.map (rnO ρ))
  | c => c
def rnS (ρ : List (Nat × Nat)) : SV → SV
  | .one c => .one (rnC ρ c)
  | .ag cs => .ag (cs.map (rnC ρ))
  | .tu xs => .tu (xs.map fun x => (x.1, x.2.map (rnC ρ)))
  | .un => .un
def rnB (ρ : List (Nat × Nat)) : Ob → Ob
  | .cells cs => .cells (cs.map (rnC ρ))
  | q => q
def memB (ob : List (Nat × Ob)) (o : Nat) : Bool := (lookB ob o).isSome
def okC (ob : List (Nat × Ob)) : C → Bool
  | .rf o _ => memB ob o
  | .fc _ caps => caps.all (memB ob)
  | _ => true
def okOb (ob : List (Nat × Ob)) : Ob → Bool
  | .cells cs => cs.all (okC ob)
  | _ => true
def slOK (σ : St) (ρ : List (Nat × Nat)) : List (Nat × SV) → Prop
  | [] => True
  | x :: r => σ.slots x.1 = rnS ρ x.2 ∧ slOK σ ρ r
def obOK (σ : St) (ρ : List (Nat × Nat)) : List (Nat × Ob) → Prop
  | [] => True
  | x :: r => σ.objs (rnO ρ x.1) = some (rnB ρ x.2) ∧ obOK σ ρ r
def Ob.noCells : Ob → Bool
  | .cells _ => false
  | _ => true
def tmB (ρ : List (Nat × Nat)) (sl : List (Nat × SV)) (ob : List (Nat × Ob)) : Bool :=
  (sl.all fun x => x.2.cells.all (okC ob)) && ((ob.all fun x => okOb ob x.2 && ((Nat.ble 1000 x.1 && (Nat.ble 1000 (rnO ρ x.1) || x.2.noCells)) || Nat.beq (rnO ρ x.1) x.1)) && nodB (ob.map fun x => rnO ρ x.1))

theorem lookS_mem {sl : List (Nat × SV)} {t : Nat} : lookS sl t = .un ∨ (t, lookS sl t) ∈ sl := by
  induction sl with
  | nil => exact .inl rfl
  | cons x r ih =>
    by_cases e : t = x.1
    · right; simp only [lookS]; rw [e, Nat.beq_refl, cond_true]; simp
    · simp only [lookS, beq_ne e, cond_false]; exact ih.imp id fun h => by simp [h]
theorem lookB_mem {ob : List (Nat × Ob)} {o : Nat} {q : Ob} (h : lookB ob o = some q) : (o, q) ∈ ob := by
  induction ob with
  | nil => cases h
  | cons x r ih =>
    by_cases e : o = x.1
    · simp only [lookB] at h; rw [e, Nat.beq_refl, cond_true] at h; cases h; rw [e]; simp
    · simp only [lookB, beq_ne e, cond_false] at h; simp [ih h]
theorem slOK_mem {ρ : List (Nat × Nat)} : ∀ {sl : List (Nat × SV)}, slOK σ ρ sl → ∀ x ∈ sl, σ.slots x.1 = rnS ρ x.2
  | [], _, x, hx => by simp at hx
  | y :: r, h, x, hx => by
    rcases List.mem_cons.1 hx with rfl | hx
    · exact h.1
    · exact slOK_mem h.2 x hx
theorem obOK_mem {ρ : List (Nat × Nat)} : ∀ {ob : List (Nat × Ob)}, obOK σ ρ ob → ∀ x ∈ ob, σ.objs (rnO ρ x.1) = some (rnB ρ x.2)
  | [], _, x, hx => by simp at hx
  | y :: r, h, x, hx => by
    rcases List.mem_cons.1 hx with rfl | hx
    · exact h.1
    · exact obOK_mem h.2 x hx
theorem rnS_cells {ρ : List (Nat × Nat)} {s : SV} : (rnS ρ s).cells = s.cells.map (rnC ρ) := by
  cases s with
  | one c => rfl
  | ag cs => rfl
  | un => rfl
  | tu xs =>
    simp only [rnS, SV.cells]
    induction xs with
    | nil => rfl
    | cons x xs ih => simp [ih]
theorem rnS_shape {ρ : List (Nat × Nat)} {s : SV} {u : Value} (h : ShapeOK (rnS ρ s) u) : ShapeOK s u := by
  cases s with
  | one c => exact h
  | ag cs => have h : AggOK (cs.map (rnC ρ)).length u := h; show AggOK cs.length u; simpa using h
  | un => trivial
  | tu xs =>
    obtain ⟨vs, e, h⟩ := h
    refine ⟨vs, e, ?_⟩
    clear e
    induction xs generalizing vs with
    | nil => exact h
    | cons x xs ih =>
      cases vs with
      | nil => exact h.elim
      | cons v vs => exact ⟨by have := h.1; simpa using this, ih vs h.2⟩
/-- The state is told by a template: what it does not list is forgotten. -/
theorem Wk_tmpl [Glob] (ρ : List (Nat × Nat)) {n : Nat} {sl : List (Nat × SV)} {ob : List (Nat × Ob)} (hs : slOK σ ρ sl) (ho : obOK σ ρ ob) (hb : tmB ρ sl ob = true) (hn : σ.n = n) : Wk σ (St.tmpl n sl ob) := by
  intro K w I g tm hi
  obtain ⟨b1, b2⟩ := Bool.and_eq_true_iff.1 hb
  obtain ⟨b2, b3⟩ := Bool.and_eq_true_iff.1 b2
  have hnd := nodB_ok b3
  have inj : ∀ {x y : Nat}, memB ob x = true → memB ob y = true → rnO ρ x = rnO ρ y → x = y := by
    intro x y hx hy he
    obtain ⟨qx, hqx⟩ := Option.isSome_iff_exists.1 hx
    obtain ⟨qy, hqy⟩ := Option.isSome_iff_exists.1 hy
    have mx := lookB_mem hqx
    have my := lookB_mem hqy
    by_cases e : x = y
    · exact e
    · exfalso
      obtain ⟨i, hi'⟩ := List.mem_iff_getElem?.1 mx
      obtain ⟨j, hj'⟩ := List.mem_iff_getElem?.1 my
      have hij : i ≠ j := fun h => by subst h; rw [hi'] at hj'; cases hj'; exact e rfl
      obtain ⟨hli, hie⟩ := List.getElem?_eq_some_iff.1 hi'
      obtain ⟨hlj, hje⟩ := List.getElem?_eq_some_iff.1 hj'
      have hne : ∀ (i j : Nat), i < j → ∀ (x y : Nat), (ob.map fun x => rnO ρ x.1)[i]? = some x → (ob.map fun x => rnO ρ x.1)[j]? = some y → x ≠ y := by
        intro i j hlt x y h1 h2
        obtain ⟨l1, e1⟩ := List.getElem?_eq_some_iff.1 h1
        obtain ⟨l2, e2⟩ := List.getElem?_eq_some_iff.1 h2
        have := (List.pairwise_iff_getElem.1 hnd) i j l1 l2 hlt
        rw [e1, e2] at this
        exact this
      rcases Nat.lt_or_gt_of_ne hij with h | h
      · exact hne i j h _ _ (by simp [hi']) (by simp [hj']) he
      · exact hne j i h _ _ (by simp [hj']) (by simp [hi']) he.symm
  let g' : Gh := ⟨fun o => g.addr (rnO ρ o), fun o => g.base (rnO ρ o), fun o => bif memB ob o then g.L (rnO ρ o) else []⟩
  have hL : ∀ {o b : Nat}, b ∈ g'.L o → memB ob o = true ∧ b ∈ g.L (rnO ρ o) := by
    intro o b hb
    show memB ob o = true ∧ _
    have hb : b ∈ (bif memB ob o then g.L (rnO ρ o) else []) := hb
    cases hm : memB ob o with
    | true => rw [hm] at hb; exact ⟨rfl, hb⟩
    | false => rw [hm] at hb; simp at hb
  have hLm : ∀ {o : Nat}, memB ob o = true → g'.L o = g.L (rnO ρ o) := by
    intro o hm
    show (bif memB ob o then g.L (rnO ρ o) else []) = _
    rw [hm]; rfl
  have hobj : ∀ {o : Nat} {q : Ob}, lookB ob o = some q → σ.objs (rnO ρ o) = some (rnB ρ q) ∧ okOb ob q = true ∧ ((1000 ≤ o ∧ (1000 ≤ rnO ρ o ∨ q.noCells = true)) ∨ rnO ρ o = o) := by
    intro o q h
    have hm := lookB_mem h
    have h2 := List.all_eq_true.1 b2 _ hm
    obtain ⟨h3, h4⟩ := Bool.and_eq_true_iff.1 h2
    refine ⟨obOK_mem ho _ hm, h3, ?_⟩
    rcases Bool.or_eq_true_iff.1 h4 with h | h
    · obtain ⟨k1, k2⟩ := Bool.and_eq_true_iff.1 h
      exact .inl ⟨Nat.le_of_ble_eq_true k1, (Bool.or_eq_true_iff.1 k2).imp Nat.le_of_ble_eq_true fun h => h⟩
    · exact .inr (Nat.eq_of_beq_eq_true h)
  have hsee : ∀ {o : Nat} {r : Rf} {u : Value}, memB ob o = true → seeO w I (g.addr (rnO ρ o)) (g.base (rnO ρ o)) (g.L (rnO ρ o)) (σ.objs (rnO ρ o)) r u → seeO w I (g'.addr o) (g'.base o) (g'.L o) (lookB ob o) r u := by
    intro o r u hm hs
    obtain ⟨q, hq⟩ := Option.isSome_iff_exists.1 hm
    rw [hLm hm, hq]
    rw [(hobj hq).1] at hs
    show see w I (g.addr (rnO ρ o)) (g.base (rnO ρ o)) (g.L (rnO ρ o)) q r u
    have hs : see w I (g.addr (rnO ρ o)) (g.base (rnO ρ o)) (g.L (rnO ρ o)) (rnB ρ q) r u := hs
    cases q with
    | cells cs => exact see_cells (cs := cs.map (rnC ρ)) (by rw [List.length_map]) hs
    | _ => exact hs
  have hcr : ∀ {c : C} {u : Value}, okC ob c = true → CR w I g σ.objs (rnC ρ c) u → CR w I g' (lookB ob) c u := by
    intro c u hk hc
    cases c with
    | rf o r => exact hsee hk hc
    | fc fn caps =>
      obtain ⟨vs, e, ha⟩ := hc
      have key : ∀ (caps : List Nat) (vs : List Value), caps.all (memB ob) = true → All2 (fun o v => seeO w I (g.addr o) (g.base o) (g.L o) (σ.objs o) (.pb 0) v) (caps.map (rnO ρ)) vs → All2 (fun o v => seeO w I (g'.addr o) (g'.base o) (g'.L o) (lookB ob o) (.pb 0) v) caps vs := by
        intro caps
        induction caps with
        | nil => intro vs _ ha; cases vs with
          | nil => trivial
          | cons => exact ha.elim
        | cons o caps ih =>
          intro vs hk ha
          cases vs with
          | nil => exact ha.elim
          | cons v vs =>
            simp only [List.all_cons, Bool.and_eq_true] at hk
            exact ⟨hsee hk.1 ha.1, ih vs hk.2 ha.2⟩
      exact ⟨vs, e, key caps vs hk ha⟩
    | _ => exact hc
  refine ⟨I, g', {
    fr := hi.fr
    size := by rw [hi.size, hn]; rfl
    glob := hi.glob
    imm0 := hi.imm0
    immX := hi.immX
    dis := fun o o' b h1 h2 => inj (hL h1).1 (hL h2).1 (hi.dis _ _ b (hL h1).2 (hL h2).2)
    nod := fun o => by
      show (bif memB ob o then g.L (rnO ρ o) else []).Nodup
      cases memB ob o with
      | true => exact hi.nod _
      | false => exact List.nodup_nil
    own := fun o b hb => ?_
    ext := fun o a ha => ?_
    exB := fun o v hv => ?_
    obj := fun o => ?_
    shape := fun t => ?_
    slot := fun t i c hc => ?_ }⟩
  · obtain ⟨h1, h2⟩ := hL hb
    obtain ⟨q1, q2, q3⟩ := hi.own _ b h2
    refine ⟨q1, q2, ?_⟩
    rcases q3 with h | ⟨a, ha, he⟩
    · exact .inl h
    · obtain ⟨q, hq⟩ := Option.isSome_iff_exists.1 h1
      rcases (hobj hq).2.2 with h | h
      · obtain ⟨_, h | h⟩ := h
        · have := (hi.ext _ a ha).1; omega
        · refine .inl (hi.own_mine (hobj hq).1 (fun cs hcs => ?_) h2)
          cases q with
          | cells cs => cases h
          | _ => cases hcs
      · rw [h] at ha; exact .inr ⟨a, ha, he⟩
  · refine ⟨(hi.ext o a ha).1, fun q hq => ?_⟩
    obtain ⟨h1, _, h2⟩ := hobj hq
    have hlt := (hi.ext o a ha).1
    have he : rnO ρ o = o := h2.resolve_left fun h => by have := h.1; omega
    rw [he] at h1
    obtain ⟨r1, r2, r3, cs, r4⟩ := (hi.ext o a ha).2 _ h1
    refine ⟨by show g.addr (rnO ρ o) = a; rw [he]; exact r1, r2, r3, ?_⟩
    cases q with
    | cells cs => exact ⟨cs, rfl⟩
    | _ => cases r4
  · refine ⟨(hi.exB o v hv).1, fun q hq => ?_⟩
    obtain ⟨h1, _, h2⟩ := hobj hq
    have hlt := (hi.exB o v hv).1
    have he : rnO ρ o = o := h2.resolve_left fun h => by have := h.1; omega
    rw [he] at h1
    show g.base (rnO ρ o) = v
    rw [he]; exact (hi.exB o v hv).2 _ h1
  · show ObR K w I g' (lookB ob) o
    unfold ObR
    cases hq : lookB ob o with
    | none =>
      show (bif memB ob o then g.L (rnO ρ o) else []) = []
      unfold memB; rw [hq]; rfl
    | some q =>
      obtain ⟨h1, h2, _⟩ := hobj hq
      have hm : memB ob o = true := by unfold memB; rw [hq]; rfl
      have hob := hi.obj (rnO ρ o)
      unfold ObR at hob
      rw [h1] at hob
      cases q with
      | dead => rw [hLm hm]; exact hob
      | rows e t dp xs => rw [hLm hm]; exact hob
      | fz t dp xs => rw [hLm hm]; exact hob
      | cells cs =>
        refine ⟨by rw [hLm hm]; exact hob.1, fun j c hj => ?_⟩
        obtain ⟨u, r1, r2, r3, r4, r5⟩ := hob.2 j (rnC ρ c) (by simp [hj])
        exact ⟨u, r1, r2, r3, r4, hcr (List.all_eq_true.1 h2 c (List.mem_of_getElem? hj)) r5⟩
  · show ShapeOK (lookS sl t) _
    rcases lookS_mem (sl := sl) (t := t) with h | h
    · rw [h]; trivial
    · have := slOK_mem hs _ h
      have hsh := hi.shape t
      simp only at this
      rw [this] at hsh
      exact rnS_shape hsh
  · have hc : (lookS sl t).cells[i]? = some c := hc
    rcases lookS_mem (sl := sl) (t := t) with h | h
    · rw [h] at hc; simp [SV.cells] at hc
    · have := slOK_mem hs _ h
      simp only at this
      obtain ⟨u, h1, h2⟩ := hi.slot t i (rnC ρ c) (by rw [this, rnS_cells]; simp [hc])
      exact ⟨u, h1, hcr (List.all_eq_true.1 (List.all_eq_true.1 b1 _ h) c (List.mem_of_getElem? hc)) h2⟩

/-! ### Loops, bounds -/
theorem W_loopT [Glob] {c : Code} {Q : Exit → St → Prop} {T : Type} (J : T → St) (R : T → Prop) (m : T → Nat) (i0 : T) (h0 : R i0) (hw : Wk σ (J i0)) (round : ∀ i, R i → W P c (Exit.thenS (fun σ' => ∃ i', m i' < m i ∧ R i' ∧ Wk σ' (J i')) Q) (J i)) : W P (.loop c) Q σ := by
  refine W.weak hw ?_
  refine W_loop (fun k σ => ∃ i, m i = k ∧ R i ∧ σ = J i) (m i0) ⟨i0, rfl, h0, rfl⟩ ?_
  rintro k σ ⟨i, rfl, hr, rfl⟩
  refine W_weakQ ((round i hr).mono fun e σ1 h => ?_)
  cases e with
  | normal => obtain ⟨i', h1, h2, h3⟩ := h; exact ⟨J i', h3, m i', h1, i', rfl, h2, rfl⟩
  | exit id => exact ⟨σ1, Wk.refl _, h⟩
  | goto l => exact ⟨σ1, Wk.refl _, h⟩
  | ret => exact ⟨σ1, Wk.refl _, h⟩
  | panic ch => exact ⟨σ1, Wk.refl _, h⟩
  | outgrown => exact ⟨σ1, Wk.refl _, h⟩
theorem RT.short {w : World} {S : Nat → Prop} {e : Ty} {xs : List e.T} {us : List Value} (h : RT w S (.sl e) xs us) : xs.length ≤ maxLen := by
  obtain ⟨A, cap, _, h1, h2, _⟩ := h
  exact Nat.le_trans h1 h2
theorem W_lenS [Glob] {c : Code} {Q : Exit → St → Prop} (t i : Nat) {e : Ty} {xs : List e.T} (hs : (σ.slots t).cells[i]? = some (.d (.sl e) xs)) (h : xs.length ≤ maxLen → W P c Q σ) : W P c Q σ := by
  intro K w I g tm hi
  obtain ⟨u, _, hr⟩ := hi.slot t i _ hs
  exact h (RT.short (e := e) hr) K w I g tm hi
theorem W_lenO [Glob] {c : Code} {Q : Exit → St → Prop} (o : Nat) {e : TypeId} {t : Ty} {dp : Bool} {xs : List t.T} (ho : σ.objs o = some (.rows e t dp xs)) (h : xs.length ≤ maxLen → W P c Q σ) : W P c Q σ := by
  intro K w I g tm hi
  exact h (RT.short (hi.rows ho).rt) K w I g tm hi
theorem W_lenB [Glob] {c : Code} {Q : Exit → St → Prop} (o j : Nat) {cs : List C} {e : Ty} {xs : List e.T} (ho : σ.objs o = some (.cells cs)) (hj : cs[j]? = some (.d (.sl e) xs)) (h : xs.length ≤ maxLen → W P c Q σ) : W P c Q σ := by
  intro K w I g tm hi
  obtain ⟨u, _, _, _, _, hr⟩ := (hi.cells ho).2 j _ hj
  exact h (RT.short (e := e) hr) K w I g tm hi
end Go.LX
