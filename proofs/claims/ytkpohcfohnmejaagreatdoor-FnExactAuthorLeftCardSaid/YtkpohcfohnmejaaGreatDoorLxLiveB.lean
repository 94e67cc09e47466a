/- A part of the proof of the statement in the row text. -/
import Derived.Test.YtkpohcfohnmejaaGreatDoorLxCall
/- Calls of functions that write: into a slice that they are handed, into a box. -/
set_option linter.unusedVariables false
set_option linter.unusedSimpArgs false
namespace Go.LX

variable {P : Program} {σ : St}

/-- All but the argument at k is data. -/
def aPs (ob : Nat → Option Ob) : Nat → List SA → List SV → Prop
  | 0, _ :: as, _ :: vs => dPs false ob as vs
  | k + 1, a :: as, v :: vs => dP false ob a v ∧ aPs ob k as vs
  | _, _, _ => False
def S0.noOwn : S0 → Bool
  | .own .. => false
  | _ => true
def SA.noOwn : SA → Bool
  | .c s => s.noOwn
  | .ag ss => ss.all S0.noOwn
  | .bx _ => false
  | .sem _ => true
  | .pd _ _ => true
  | .nl => true
def nOs : Nat → List SA → Bool
  | 0, _ :: as => as.all SA.noOwn
  | k + 1, a :: as => a.noOwn && nOs k as
  | _, [] => false
section
variable {K : Ctx} {w w' : World} {I I' : Nat → Prop} {g : Gh} {tm : Array Value}
theorem aPs_ok [Glob] (hi : Inv K w I g σ tm) : ∀ {k : Nat} {ss : List SA} {xs : List Operand} {a : SA} {x : Operand} {L : List Nat} {B : List (Nat × Nat × Nat)}, aPs σ.objs k ss (xs.map σ.ev) → ss[k]? = some a → xs[k]? = some x → AR w I a (Act.eval ⟨tm, []⟩ x) L B → ARs w I ss (xs.map (Act.eval ⟨tm, []⟩)) L B
  | 0, s :: ss, y :: xs, a, x, L, B, h, ha, hx, hr => by
    simp at ha hx
    subst ha; subst hx
    exact ⟨L, [], B, [], by simp, by simp, hr, dPs_ok hi (a := false) (fun _ h => h) (fun h => by cases h) h⟩
  | k + 1, s :: ss, y :: xs, a, x, L, B, h, ha, hx, hr => ⟨[], L, [], B, rfl, rfl, dP_ok hi (a := false) (fun _ h => h) (fun h => by cases h) h.1, aPs_ok hi h.2 (by simpa using ha) (by simpa using hx) hr⟩
  | 0, [], _, _, _, _, _, h, _, _, _ => h.elim
  | 0, _ :: _, [], _, _, _, _, h, _, _, _ => h.elim
  | _ + 1, [], _, _, _, _, _, h, _, _, _ => h.elim
  | _ + 1, _ :: _, [], _, _, _, _, h, _, _, _ => h.elim
theorem SRs.noOwn : ∀ {ss : List S0} {us : List Value} {L : List Nat}, ss.all S0.noOwn = true → SRs w I ss us L → L = []
  | [], _, _, _, h => h.2
  | s :: ss, _, _, hn, h => by
    obtain ⟨u1, us2, L1, L2, rfl, rfl, ⟨u, rfl, hs⟩, h2⟩ := h
    simp only [List.all_cons, Bool.and_eq_true] at hn
    have := SRs.noOwn hn.2 h2
    subst this
    cases s with
    | own => cases hn.1
    | d t x => simp [hs.1]
    | any => simp [hs.1]
theorem AR.noOwn {a : SA} {u : Value} {L : List Nat} {B : List (Nat × Nat × Nat)} (hn : a.noOwn = true) (h : AR w I a u L B) : L = [] ∧ B = [] := by
  cases a with
  | c s =>
    cases s with
    | own => cases hn
    | d t x => exact ⟨h.2.1, h.1⟩
    | any => exact ⟨h.2.1, h.1⟩
  | ag ss => obtain ⟨hB, us, _, hs⟩ := h; exact ⟨SRs.noOwn hn hs, hB⟩
  | bx ss => cases hn
  | sem φ => exact ⟨h.1, h.2.1⟩
  | pd t x => exact ⟨h.1, h.2.1⟩
  | nl => exact ⟨h.1, h.2.1⟩
theorem ARs.noOwn : ∀ {as : List SA} {us : List Value} {L : List Nat} {B : List (Nat × Nat × Nat)}, as.all SA.noOwn = true → ARs w I as us L B → L = [] ∧ B = []
  | [], [], _, _, _, h => h
  | a :: as, u :: us, L, B, hn, h => by
    obtain ⟨L1, L2, B1, B2, rfl, rfl, h1, h2⟩ := h
    simp only [List.all_cons, Bool.and_eq_true] at hn
    obtain ⟨e1, e2⟩ := AR.noOwn hn.1 h1
    obtain ⟨e3, e4⟩ := ARs.noOwn hn.2 h2
    simp [e1, e2, e3, e4]
  | [], _ :: _, _, _, _, h => h.elim
  | _ :: _, [], _, _, _, h => h.elim
theorem ARs.at : ∀ {k : Nat} {as : List SA} {us : List Value} {L : List Nat} {B : List (Nat × Nat × Nat)} {b : SA} {u : Value}, nOs k as = true → ARs w I as us L B → as[k]? = some b → us[k]? = some u → AR w I b u L B
  | 0, a :: as, v :: us, L, B, b, u, hn, h, hb, hu => by
    obtain ⟨L1, L2, B1, B2, rfl, rfl, h1, h2⟩ := h
    obtain ⟨e3, e4⟩ := ARs.noOwn hn h2
    simp at hb hu
    subst hb; subst hu
    simpa [e3, e4] using h1
  | k + 1, a :: as, v :: us, L, B, b, u, hn, h, hb, hu => by
    obtain ⟨L1, L2, B1, B2, rfl, rfl, h1, h2⟩ := h
    obtain ⟨n1, n2⟩ := Bool.and_eq_true_iff.1 hn
    obtain ⟨e3, e4⟩ := AR.noOwn n1 h1
    have := ARs.at n2 h2 (by simpa using hb) (by simpa using hu)
    simpa [e3, e4] using this
  | _, [], _, _, _, _, _, _, _, hb, _ => by simp at hb
  | _, _ :: _, [], _, _, _, _, _, _, _, hu => by simp at hu
end

def obOf : S0 → Ob
  | .own e t dp xs => .rows e t dp xs
  | _ => .dead
def poB (t : Ty) : S0 → Bool
  | .own _ t' dp _ => !dp && Nat.beq t'.w t.w
  | .any => true
  | .d .. => false
/-- A function that is handed one slice that it may write: the core. -/
theorem op_callG [Glob] {o : Oper} {d : Option Nat} {f : FuncId} {xs : List Operand} {tys : Array TypeId} {args post : List SA} {res : RS} {id k q : Nat} {x : Operand} {e : TypeId} {t : Ty} {ys : List t.T} {s' : S0} {sa sb : SA} {N : St → Prop} (hF : FnC P f args post res) (ho : o.op = .call { callee := .value (.func f), args := xs.toArray, argTypes := tys }) (hd : o.dst = d) (ht : dstB σ.n d = true) (hf : fnB P f = true)
    (hk : args[k]? = some sa) (hx : xs[k]? = some x) (hq : σ.objs q = some (.rows e t false ys)) (hargs : aPs σ.objs k args (xs.map σ.ev)) (hpk : post[k]? = some sb) (hpb : poB t s' = true) (hpn : nOs k post = true)
    (hA : ∀ (K : Ctx) (w : World) (I : Nat → Prop) (g : Gh) (tm : Array Value), Inv K w I g σ tm → AR w I sa (Act.eval ⟨tm, []⟩ x) (g.L q) [] ∧ ∀ (w' : World) (I' : Nat → Prop) (L' : List Nat), AR w' I' sb (Act.eval ⟨tm, []⟩ x) L' [] → SR w' I' s' (g.base q) L')
    (hid : newR (σ.setO q (obOf s')).objs d res.cells.length = some id) (hN : N ((enC id res.cells (σ.setO q (obOf s'))).putD d (res.svN id))) : OpW P o N σ := by
  intro K w I g tm hi
  rw [fnB_run ho hf]
  simp only [Oper.upon]
  obtain ⟨har, hAp⟩ := hA K w I g tm hi
  have hoa := hi.rows hq
  refine (hF w I _ (g.L q) [] ⟨fun b hb => (hi.immX b hb).1, hi.glob⟩ (aPs_ok hi hargs hk hx har) (by simpa using hi.nod q) (fun b hb => by simp at hb; exact ⟨(hi.own q b hb).1, hi.ob_lt hb⟩)).mono ?_
  rintro ee w' ⟨v, rfl, hfc, I', L', Lr, hI1, hI2, hpost, hres, hnd, hown⟩
  have hr := hAp w' I' L' (hpost.at hpn hpk (u := Act.eval ⟨tm, []⟩ x) (by simp [hx]))
  have hmine : ∀ b ∈ g.L q, K.mine b := fun b hb => hi.own_mine hq (fun _ h => by cases h) hb
  have hgr : Grow w w' fun b => b ∈ g.L q := ⟨hfc.os, hfc.tape, hfc.output, hfc.size, fun b hb hn => hfc.old b hb hn (by simp)⟩
  have hown' : ∀ b ∈ L' ++ Lr, ¬ I' b ∧ b < w'.heap.size ∧ (b ∈ g.L q ∨ Free K I g b) := fun b hb => by
    obtain ⟨q1, _, q3, q4⟩ := hown b hb
    refine ⟨q1, q3, ?_⟩
    by_cases hlt : b < w.heap.size
    · exact .inl (q4 hlt)
    · exact .inr (free_new hi (Nat.le_of_not_lt hlt))
  obtain ⟨nd1, nd2, nd3⟩ := List.nodup_append.1 hnd
  have step : ∀ (p : Ob) (L2 : List Nat), p = obOf s' → (∀ b ∈ L2, b ∈ L') → L2.Nodup → Keep w I g σ.objs w' I' (g.setO q (g.addr q) (g.base q) L2) (σ.setO q p).objs q → ((∀ x, Keep w I g σ.objs w' I' (g.setO q (g.addr q) (g.base q) L2) (σ.setO q p).objs x) → (∀ b, I b → I' b ∧ ∀ f, w'.cell? ⟨b, f, none⟩ = w.cell? ⟨b, f, none⟩) → ObR K w' I' (g.setO q (g.addr q) (g.base q) L2) (σ.setO q p).objs q) →
      Inv K w' I' (g.setO q (g.addr q) (g.base q) L2) (σ.setO q (obOf s')) tm := by
    intro p L2 hp hsub hnd2 hkk hob
    subst hp
    refine hi.one hgr (fun b hb => .inl hb) (hi.fr.step hgr hmine) hI1 (fun b hb => ?_) hnd2 (fun b hb => ?_) (fun a ha => absurd ha (hi.noE hq (fun _ h => by cases h) a)) (fun v hv => (hi.exB q v hv).2 _ hq) hkk hob
    · obtain ⟨q1, q2⟩ := hI2 b hb
      by_cases hlt : b < w.heap.size
      · rcases q2 hlt with h | h
        · exact .inl h
        · exact .inr ⟨.inl h, hmine b h, fun hb2 => (hown' b (by simp [hsub b hb2])).1 hb, q1⟩
      · have hfree := free_new hi (Nat.le_of_not_lt hlt)
        exact .inr ⟨.inr hfree, hfree.m, fun hb2 => (hown' b (by simp [hsub b hb2])).1 hb, q1⟩
    · obtain ⟨q1, q2, q3⟩ := hown' b (by simp [hsub b hb])
      exact ⟨q2, q3, .inl (q3.elim (hmine b) fun h => h.m)⟩
  have fin : ∀ (L2 : List Nat), (∀ b ∈ L2, b ∈ L') → Inv K w' I' (g.setO q (g.addr q) (g.base q) L2) (σ.setO q (obOf s')) tm → (Act.put ⟨tm, []⟩ o.dst v).defers = [] ∧ ∃ σ' I' g', N σ' ∧ Inv K w' I' g' σ' (Act.put ⟨tm, []⟩ o.dst v).tmps := by
    intro L2 hsub hi2
    have hfree : ∀ b ∈ Lr, Free K I' (g.setO q (g.addr q) (g.base q) L2) b := by
      intro b hb
      obtain ⟨q1, q2, q3⟩ := hown' b (by simp [hb])
      refine ⟨q1, fun y hy => ?_, q3.elim (hmine b) fun h => h.m⟩
      by_cases ey : y = q
      · rw [ey, Gh.setO_eq.2.2] at hy
        exact nd3 b (hsub b hy) b hb rfl
      · rw [(Gh.setO_ne ey).2.2] at hy
        rcases q3 with h | h
        · exact ey (hi.dis y q b hy h)
        · exact h.l y hy
    obtain ⟨g', hfin⟩ := hi2.res hres nd2 hfree (newR_ok hid) ht
    cases d with
    | none => simp only [Act.put, hd]; exact ⟨trivial, _, _, _, hN, hfin⟩
    | some t => simp only [Act.put, hd]; exact ⟨trivial, _, _, _, hN, hfin⟩
  cases s' with
  | d t0 x0 => cases hpb
  | any =>
    refine fin [] (by simp) (step .dead [] rfl (by simp) List.nodup_nil ?_ fun _ _ => ?_)
    · intro r u _
      rw [St.setO_same]; simp only [seeO]; exact see_dead
    · unfold ObR; rw [St.setO_same]; exact Gh.setO_eq.2.2
  | own e' t' dp' xs' =>
    obtain ⟨p1, p2⟩ := Bool.and_eq_true_iff.1 hpb
    have p2 := Nat.eq_of_beq_eq_true p2
    cases dp' with
    | true => cases p1
    | false =>
      have hr : OA w' I' false e' t' xs' (g.base q) L' := hr
      have hlen : xs'.length = ys.length := by
        obtain ⟨A, c, e1, _⟩ := hr.rt
        obtain ⟨A2, c2, e2, _⟩ := hoa.rt
        simp only [List.cons.injEq, and_true] at e1 e2
        rw [e1] at e2
        simp only [Value.slice.injEq] at e2
        exact e2.2.1
      refine fin L' (fun _ h => h) (step (.rows e' t' false xs') L' rfl (fun _ h => h) nd1 ?_ fun _ _ => ?_)
      · intro r u hs
        rw [hq] at hs
        rw [St.setO_same, Gh.setO_eq.1, Gh.setO_eq.2.1]
        simp only [seeO] at hs ⊢
        cases r <;> first | exact hs | trivial | (simp only [see] at hs ⊢; rw [hlen, p2]; exact hs)
      · unfold ObR; rw [St.setO_same]; rw [Gh.setO_eq.2.1, Gh.setO_eq.2.2]; exact hr

/-- A function that is handed a slice that it may write. -/
theorem op_callO [Glob] {o : Oper} {d : Option Nat} {f : FuncId} {xs : List Operand} {tys : Array TypeId} {args post : List SA} {res : RS} {id k q : Nat} {x : Operand} {e : TypeId} {t : Ty} {ys : List t.T} {s' : S0} {N : St → Prop} (hF : FnC P f args post res) (ho : o.op = .call { callee := .value (.func f), args := xs.toArray, argTypes := tys }) (hd : o.dst = d) (ht : dstB σ.n d = true) (hf : fnB P f = true)
    (hk : args[k]? = some (.c (.own e t false ys))) (hx : xs[k]? = some x) (hv : σ.ev x = .one (.rf q .ar)) (hq : σ.objs q = some (.rows e t false ys)) (hargs : aPs σ.objs k args (xs.map σ.ev)) (hpk : post[k]? = some (.c s')) (hpb : poB t s' = true) (hpn : nOs k post = true)
    (hid : newR (σ.setO q (obOf s')).objs d res.cells.length = some id) (hN : N ((enC id res.cells (σ.setO q (obOf s'))).putD d (res.svN id))) : OpW P o N σ := by
  refine op_callG hF ho hd ht hf hk hx hq hargs hpk hpb hpn (fun K w I g tm hi => ?_) hid hN
  have hu : Act.eval ⟨tm, []⟩ x = g.base q := by
    have hp := (hi.ev_one hv).1
    have hp' : seeO w I (g.addr q) (g.base q) (g.L q) (σ.objs q) .ar (Act.eval ⟨tm, []⟩ x) := hp
    rw [hq] at hp'; exact hp'
  rw [hu]
  exact ⟨⟨rfl, hi.rows hq⟩, fun w' I' L' h => h.2⟩
/-- All but the cell at j owns nothing. -/
def nOc : Nat → List S0 → Bool
  | 0, _ :: ss => ss.all S0.noOwn
  | j + 1, s :: ss => s.noOwn && nOc j ss
  | _, [] => false
theorem SRs.at {w : World} {I : Nat → Prop} : ∀ {j : Nat} {ss : List S0} {us : List Value} {L : List Nat} {s : S0} {u : Value}, nOc j ss = true → SRs w I ss us L → ss[j]? = some s → us[j]? = some u → SR w I s u L
  | 0, a :: ss, us, L, s, u, hn, h, hs, hu => by
    obtain ⟨u1, us2, L1, L2, rfl, rfl, ⟨v, rfl, h1⟩, h2⟩ := h
    have e := SRs.noOwn hn h2
    simp at hs hu
    subst hs; subst hu
    simpa [e] using h1
  | j + 1, a :: ss, us, L, s, u, hn, h, hs, hu => by
    obtain ⟨u1, us2, L1, L2, rfl, rfl, ⟨v, rfl, h1⟩, h2⟩ := h
    obtain ⟨n1, n2⟩ := Bool.and_eq_true_iff.1 hn
    have e : L1 = [] := by
      cases a with
      | own => cases n1
      | d t x => exact h1.1
      | any => exact h1.1
    have := SRs.at n2 h2 (by simpa using hs) (by simpa using hu)
    simpa [e] using this
  | _, [], _, _, _, _, _, _, hs, _ => by simp at hs
/-- A function that is handed a struct, one of whose slices it may write. -/
theorem op_callA [Glob] {o : Oper} {d : Option Nat} {f : FuncId} {xs : List Operand} {tys : Array TypeId} {args post : List SA} {res : RS} {id k j q : Nat} {x : Operand} {e : TypeId} {t : Ty} {ys : List t.T} {ss ss' : List S0} {cs : List C} {s' : S0} {N : St → Prop} (hF : FnC P f args post res) (ho : o.op = .call { callee := .value (.func f), args := xs.toArray, argTypes := tys }) (hd : o.dst = d) (ht : dstB σ.n d = true) (hf : fnB P f = true)
    (hk : args[k]? = some (.ag ss)) (hx : xs[k]? = some x) (hv : σ.ev x = .ag cs) (hms : msPs σ.objs ss cs) (hos : msOs ss cs = [q]) (hj : cs[j]? = some (.rf q .ar)) (hq : σ.objs q = some (.rows e t false ys)) (hargs : aPs σ.objs k args (xs.map σ.ev)) (hpk : post[k]? = some (.ag ss')) (hs' : ss'[j]? = some s') (hnj : nOc j ss' = true) (hpb : poB t s' = true) (hpn : nOs k post = true)
    (hid : newR (σ.setO q (obOf s')).objs d res.cells.length = some id) (hN : N ((enC id res.cells (σ.setO q (obOf s'))).putD d (res.svN id))) : OpW P o N σ := by
  refine op_callG hF ho hd ht hf hk hx hq hargs hpk hpb hpn (fun K w I g tm hi => ?_) hid hN
  obtain ⟨hsh, hcs⟩ := hi.ev x hv
  obtain ⟨us, hu, hul, h1⟩ := hsh
  have hcs' : ∀ (i : Nat) (c : C), cs[i]? = some c → ∃ u, us[i]? = some u ∧ u.oneCell' = true ∧ CR w I g σ.objs c u := fun i c hc => by
    obtain ⟨u, q1, q2⟩ := hcs i c hc
    rw [hu] at q1
    have q1 : us[i]? = some u := by simpa [valCells, Value.cells] using q1
    exact ⟨u, q1, h1 u (List.mem_of_getElem? q1), q2⟩
  have hsr := SRs.of hi hms hul hcs'
  rw [hos] at hsr
  simp only [List.flatMap_cons, List.flatMap_nil, List.append_nil] at hsr
  obtain ⟨uj, r1, _, r2⟩ := hcs' j _ hj
  have hb : uj = g.base q := by
    have r2' : seeO w I (g.addr q) (g.base q) (g.L q) (σ.objs q) .ar uj := r2
    rw [hq] at r2'; exact r2'
  refine ⟨⟨rfl, us, hu, hsr⟩, fun w' I' L' h => ?_⟩
  obtain ⟨_, us', hu', hs⟩ := h
  rw [hu] at hu'
  have : us' = us := by simpa using hu'.symm
  subst this
  rw [← hb]
  exact hs.at hnj hs' r1
end Go.LX

/- Calls of functions that are handed a pointer to a box. -/
set_option linter.unusedVariables false
set_option linter.unusedSimpArgs false
namespace Go.LX

variable {P : Program} {σ : St}

def St.kills : List Nat → St → St
  | [], σ => σ
  | o :: os, σ => St.kills os (σ.setO o .dead)
section
variable {K : Ctx} {w w' : World} {I I' : Nat → Prop} {g : Gh} {tm : Array Value}
theorem Inv.kills [Glob] : ∀ {os : List Nat} {σ : St} {g : Gh}, Inv K w I g σ tm → os.Nodup → (∀ o ∈ os, isRows σ.objs o) →
    ∃ g', Inv K w I g' (σ.kills os) tm ∧ g'.addr = g.addr ∧ g'.base = g.base ∧ (∀ x, x ∉ os → g'.L x = g.L x ∧ (σ.kills os).objs x = σ.objs x) ∧ (∀ x ∈ os, g'.L x = []) ∧ (σ.kills os).n = σ.n
  | [], σ, g, hi, _, _ => ⟨g, hi, rfl, rfl, fun _ _ => ⟨rfl, rfl⟩, fun x hx => by simp at hx, rfl⟩
  | o :: os, σ, g, hi, hnd, hr => by
    obtain ⟨e, t, dp, xs, hq⟩ := hr o (by simp)
    obtain ⟨h1, h2⟩ := List.nodup_cons.1 hnd
    obtain ⟨g', r1, r2, r3, r4, r5, r6⟩ := Inv.kills (os := os) (hi.kill hq).1 h2 fun x hx => by
      have hne : x ≠ o := fun e => h1 (e ▸ hx)
      obtain ⟨e, t, dp, xs, hq⟩ := hr x (by simp [hx])
      exact ⟨e, t, dp, xs, by rw [St.setO_other _ _ _ _ hne]; exact hq⟩
    refine ⟨g', r1, ?_, ?_, fun x hx => ?_, fun x hx => ?_, r6⟩
    · rw [r2]; funext x
      by_cases ex : x = o
      · rw [ex, Gh.setO_eq.1]
      · rw [(Gh.setO_ne ex).1]
    · rw [r3]; funext x
      by_cases ex : x = o
      · rw [ex, Gh.setO_eq.2.1]
      · rw [(Gh.setO_ne ex).2.1]
    · have hne : x ≠ o := fun e => hx (by simp [e])
      obtain ⟨q1, q2⟩ := r4 x fun h => hx (by simp [h])
      exact ⟨q1.trans (Gh.setO_ne hne).2.2, q2.trans (St.setO_other _ _ _ _ hne)⟩
    · rcases List.mem_cons.1 hx with rfl | hx
      · rw [(r4 x h1).1, Gh.setO_eq.2.2]
      · exact r5 x hx
/-- A box's cells are told anew. -/
theorem Inv.tellBox [Glob] (hi : Inv K w I g σ tm) {q : Nat} {cs0 cs : List C} (hq : σ.objs q = some (.cells cs0)) (hl : cs.length = cs0.length)
    (hc : ∀ (j : Nat) (c : C), cs[j]? = some c → ∃ u, w.cell? ⟨(g.addr q).1, (g.addr q).2 + j, none⟩ = some u ∧ CR w I g σ.objs c u) : Inv K w I (g.setO q (g.addr q) (g.base q) (g.L q)) (σ.setO q (.cells cs)) tm := by
  obtain ⟨hL, hbx⟩ := hi.cells hq
  refine hi.one (Grow.refl w fun _ => False) (fun _ h => h.elim) hi.fr (fun _ h => h) (fun b hb => .inl hb) (hi.nod q) (fun b hb => ⟨hi.ob_lt hb, .inl hb, (hi.own q b hb).2.2⟩) (fun a ha => by obtain ⟨e1, e2, e3, _⟩ := (hi.ext q a ha).2 _ hq; exact ⟨e1, e2, e3, _, rfl⟩) (fun v hv => (hi.exB q v hv).2 _ hq) ?_ fun hk hI => ?_
  · intro r u hs
    rw [hq] at hs
    rw [St.setO_same, Gh.setO_eq.1, Gh.setO_eq.2.1]
    exact see_cells hl hs
  · unfold ObR; rw [St.setO_same]; rw [Gh.setO_eq.1, Gh.setO_eq.2.2]
    refine ⟨hL, fun j c hj => ?_⟩
    rw [Gh.setO_eq.1]
    have hlt : j < cs0.length := by rw [← hl]; exact (List.getElem?_eq_some_iff.1 hj).1
    obtain ⟨u, q1, q2, q3, q4, q5⟩ := hbx j cs0[j] (List.getElem?_eq_getElem hlt)
    obtain ⟨u', r1, r2⟩ := hc j c hj
    rw [q1] at r1
    cases r1
    exact ⟨u, q1, q2, q3, q4, r2.keep hI hk⟩
end

def nodB : List Nat → Bool
  | [] => true
  | o :: os => !(os.any fun x => Nat.beq x o) && nodB os
theorem nodB_ok : ∀ {os : List Nat}, nodB os = true → os.Nodup
  | [], _ => List.nodup_nil
  | o :: os, h => by
    obtain ⟨h1, h2⟩ := Bool.and_eq_true_iff.1 h
    refine List.nodup_cons.2 ⟨fun hm => ?_, nodB_ok h2⟩
    have : (os.any fun x => Nat.beq x o) = true := List.any_eq_true.2 ⟨o, hm, by simp⟩
    rw [this] at h1; cases h1
/-- The state after a call that wrote a box: its old slices, its new cells. -/
def St.boxed (σ : St) (q idb : Nat) (os : List Nat) (ss' : List S0) : St := (enC idb ss' ((σ.kills os).setO q (.cells (ss'.map fun _ => .any)))).setO q (.cells (enL idb ss'))
/-- A function that is handed a pointer to a box. -/
theorem op_callB [Glob] {o : Oper} {d : Option Nat} {f : FuncId} {xs : List Operand} {tys : Array TypeId} {args post : List SA} {res : RS} {idb id k q : Nat} {x : Operand} {ss ss' : List S0} {cs : List C} {os : List Nat} {N : St → Prop} (hF : FnC P f args post res) (ho : o.op = .call { callee := .value (.func f), args := xs.toArray, argTypes := tys }) (hd : o.dst = d) (ht : dstB σ.n d = true) (hf : fnB P f = true)
    (hk : args[k]? = some (.bx ss)) (hx : xs[k]? = some x) (hv : σ.ev x = .one (.rf q (.pb 0))) (hq : σ.objs q = some (.cells cs)) (hargs : aPs σ.objs k args (xs.map σ.ev)) (hms : msPs σ.objs ss cs) (hos : msOs ss cs = os) (hnd0 : nodB os = true) (hpos : Nat.blt 0 cs.length = true)
    (hpk : post[k]? = some (.bx ss')) (hpl : Nat.beq ss'.length cs.length = true) (hpn : nOs k post = true)
    (hidb : newR (σ.kills os).objs d ss'.length = some idb) (hid : newR (σ.boxed q idb os ss').objs d res.cells.length = some id) (hN : N ((enC id res.cells (σ.boxed q idb os ss')).putD d (res.svN id))) : OpW P o N σ := by
  intro K w I g tm hi
  rw [fnB_run ho hf]
  simp only [Oper.upon]
  have hfrb := newR_ok hidb
  have hfr := newR_ok hid
  have hpos := Nat.le_of_ble_eq_true hpos
  have hpl := Nat.eq_of_beq_eq_true hpl
  have hu : Act.eval ⟨tm, []⟩ x = .pointer (some ⟨(g.addr q).1, (g.addr q).2 + 0, none⟩) := by
    have hp := (hi.ev_one hv).1
    have hp' : seeO w I (g.addr q) (g.base q) (g.L q) (σ.objs q) (.pb 0) (Act.eval ⟨tm, []⟩ x) := hp
    rw [hq] at hp'; exact hp'
  rw [Nat.add_zero] at hu
  obtain ⟨hL, hbx⟩ := hi.cells hq
  obtain ⟨us, hul, hus⟩ := agg_of (cs := cs) (b := (g.addr q).1) (f := (g.addr q).2) (w := w) (I := I) (g := g) (ob := σ.objs) (fun j c0 hj => by
    obtain ⟨v, q1, _, q3, _, q5⟩ := hbx _ c0 hj
    exact ⟨v, q1, q3, q5⟩) cs.length (Nat.le_refl _)
  have hsl : ss.length = cs.length := msPs_len hms
  have hsr : SRs w I ss us (os.flatMap g.L) := by
    rw [← hos]
    refine SRs.of hi hms hul fun j c hj => ?_
    have hlt : j < us.length := by rw [hul]; exact (List.getElem?_eq_some_iff.1 hj).1
    obtain ⟨_, r2, c0, r3, r4⟩ := hus j us[j] (List.getElem?_eq_getElem hlt)
    rw [hj] at r3
    cases r3
    exact ⟨_, List.getElem?_eq_getElem hlt, r2, r4⟩
  have hblk : (g.addr q).1 ∈ g.L q := by rw [hL]; simp
  obtain ⟨hbI, hblt, hbm⟩ := hi.own q _ hblk
  have har : AR w I (.bx ss) (Act.eval ⟨tm, []⟩ x) (os.flatMap g.L) [((g.addr q).1, (g.addr q).2, ss.length)] := by
    refine ⟨_, _, us, hu, rfl, hsr, fun j v hv => ?_⟩
    have hlt := (List.getElem?_eq_some_iff.1 hv).1
    obtain ⟨v', r1, r2, _⟩ := hbx j cs[j] (List.getElem?_eq_getElem (by omega))
    exact ⟨(hus j v hv).1, r2⟩
  have hrows : ∀ o ∈ os, isRows σ.objs o := by rw [← hos]; exact msOs_rows hms
  have hqos : q ∉ os := fun h => by
    obtain ⟨e, t, dp, ys, hq'⟩ := hrows q h
    rw [hq] at hq'; cases hq'
  have hndL : (os.flatMap g.L).Nodup := flat_nodup hi.dis hi.nod (nodB_ok hnd0)
  have hLown : ∀ b ∈ os.flatMap g.L, ∃ x ∈ os, b ∈ g.L x := fun b hb => List.mem_flatMap.1 hb
  have hbL : (g.addr q).1 ∉ os.flatMap g.L := fun h => by
    obtain ⟨y, hy, hb⟩ := hLown _ h
    exact hqos (hi.dis y q _ hb hblk ▸ hy)
  have hLm : ∀ b ∈ os.flatMap g.L, K.mine b := fun b hb => by
    obtain ⟨y, hy, hb⟩ := hLown b hb
    obtain ⟨e, t, dp, ys, hq'⟩ := hrows y hy
    exact hi.own_mine hq' (fun _ h => by cases h) hb
  refine (hF w I _ _ _ ⟨fun b hb => (hi.immX b hb).1, hi.glob⟩ (aPs_ok hi hargs hk hx har) ?_ (fun b hb => ?_)).mono ?_
  · refine List.nodup_append.2 ⟨hndL, by simp, fun a ha b hb e => ?_⟩
    simp at hb
    subst e; subst hb
    exact hbL ha
  · rcases List.mem_append.1 hb with hb | hb
    · obtain ⟨y, hy, hb⟩ := hLown b hb
      exact ⟨(hi.own y b hb).1, hi.ob_lt hb⟩
    · simp at hb; subst hb
      exact ⟨hbI, hblt⟩
  rintro ee w' ⟨v, rfl, hfc, I', L', Lr, hI1, hI2, hpost, hres, hnd, hown⟩
  have hr := hpost.at hpn hpk (u := Act.eval ⟨tm, []⟩ x) (by simp [hx])
  obtain ⟨b2, f2, us2, e1, e2, hr2, hcell2⟩ := hr
  rw [hu] at e1
  simp only [Value.pointer.injEq, Option.some.injEq, Addr.mk.injEq, and_true] at e1
  obtain ⟨rfl, rfl⟩ := e1
  obtain ⟨g1, hi1, ga1, gb1, gx1, go1, hn1⟩ := hi.kills (nodB_ok hnd0) hrows
  have hq1 : (σ.kills os).objs q = some (.cells cs) := by rw [(gx1 q hqos).2]; exact hq
  have hL1 : g1.L q = [(g.addr q).1] := by rw [(gx1 q hqos).1]; exact hL
  have hsub : ∀ x b, b ∈ g1.L x → b ∈ g.L x ∧ x ∉ os := fun x b hb => by
    by_cases hx' : x ∈ os
    · rw [go1 x hx'] at hb; simp at hb
    · rw [(gx1 x hx').1] at hb; exact ⟨hb, hx'⟩
  have hfreeL : ∀ b, b ∈ os.flatMap g.L ∨ w.heap.size ≤ b → Free K I g1 b := by
    intro b hb
    rcases hb with hb | hb
    · obtain ⟨y, hy, hby⟩ := hLown b hb
      refine ⟨(hi.own y b hby).1, fun x hx' => ?_, hLm b hb⟩
      obtain ⟨q1, q2⟩ := hsub x b hx'
      exact q2 (hi.dis x y b q1 hby ▸ hy)
    · exact free_new hi1 hb
  have hown' : ∀ b ∈ L' ++ Lr, ¬ I' b ∧ b ≠ (g.addr q).1 ∧ b < w'.heap.size ∧ (b ∈ os.flatMap g.L ∨ w.heap.size ≤ b) := fun b hb => by
    obtain ⟨q1, q2, q3, q4⟩ := hown b hb
    refine ⟨q1, fun e => q2 (by simp [e]), q3, ?_⟩
    by_cases hlt : b < w.heap.size
    · exact .inl (q4 hlt)
    · exact .inr (Nat.le_of_not_lt hlt)
  obtain ⟨nd1, nd2, nd3⟩ := List.nodup_append.1 hnd
  have hI3 : ∀ b, I' b → b < w'.heap.size ∧ (I b ∨ b ∈ os.flatMap g.L ∨ w.heap.size ≤ b) := fun b hb => by
    obtain ⟨q1, q2⟩ := hI2 b hb
    refine ⟨q1, ?_⟩
    by_cases hlt : b < w.heap.size
    · exact (q2 hlt).elim (fun h => .inl h) fun h => .inr (.inl h)
    · exact .inr (.inr (Nat.le_of_not_lt hlt))
  have hnI : ¬ I' (g.addr q).1 := fun h => by
    rcases (hI3 _ h).2 with h | h | h
    · exact hbI h
    · exact hbL h
    · omega
  have hgr : Grow w w' fun b => b = (g.addr q).1 ∨ b ∈ os.flatMap g.L := ⟨hfc.os, hfc.tape, hfc.output, hfc.size, fun b hb hn => hfc.old b hb (fun h => hn (.inr h)) fun h => hn (.inl (by simpa using h))⟩
  have hR : ∀ f, (g.addr q).1 < K.w0.heap.size → (g.addr q).2 ≤ f → f < (g.addr q).2 + cs.length → K.R (g.addr q).1 f := fun f hlt h1 h2 => by
    obtain ⟨_, _, _, _, r4, _⟩ := hbx (f - (g.addr q).2) cs[f - (g.addr q).2] (List.getElem?_eq_getElem (by omega))
    have := r4 hlt
    rwa [show (g.addr q).2 + (f - (g.addr q).2) = f by omega] at this
  have hnX : ∀ b, b < K.w0.heap.size → ¬ K.X b → b ∉ os.flatMap g.L := fun b hb hx hL => hx (hLm b hL hb)
  have hfr' : K.Fr w' := {
    os := hfc.os.trans hi.fr.os
    tape := hfc.tape.trans hi.fr.tape
    output := hfc.output.trans hi.fr.output
    size := Nat.le_trans hi.fr.size hfc.size
    old := fun b hb hX hR' => (hfc.old b (Nat.lt_of_lt_of_le hb hi.fr.size) (hnX b hb hX) (fun h => by
      simp at h; subst h
      exact hR' _ (hR (g.addr q).2 hb (Nat.le_refl _) (by omega)))).trans (hi.fr.old b hb hX hR')
    part := fun b hb hX f hR' => (hfc.part b (Nat.lt_of_lt_of_le hb hi.fr.size) (hnX b hb hX) f (fun r hr ⟨h1, h2, h3⟩ => by
      simp at hr; subst hr
      simp only at h1 h2 h3
      subst h1
      exact hR' (hR f hb h2 (by omega)))).trans (hi.fr.part b hb hX f hR')
    froz := fun b hb hX f => (hfc.froz b (Nat.lt_of_lt_of_le hb hi.fr.size) (hnX b hb hX) f).trans (hi.fr.froz b hb hX f) }
  have hc2 := hr2.cells
  -- the box, its cells as yet untold
  have hi2 : Inv K w' I' (g1.setO q (g1.addr q) (g1.base q) (g1.L q)) ((σ.kills os).setO q (.cells (ss'.map fun _ => .any))) tm := by
    refine hi1.one hgr (fun b hb => ?_) hfr' hI1 (fun b hb => ?_) (hi1.nod q) (fun b hb => ?_) (fun a ha => by obtain ⟨e1, e2, e3, _⟩ := (hi1.ext q a ha).2 _ hq1; exact ⟨e1, e2, e3, _, rfl⟩) (fun v hv => (hi1.exB q v hv).2 _ hq1) ?_ fun _ _ => ?_
    · rcases hb with rfl | hb
      · exact .inl (by rw [hL1]; simp)
      · exact .inr (hfreeL b (.inl hb))
    · obtain ⟨q1, q2⟩ := hI3 b hb
      rcases q2 with h | h
      · exact .inl h
      · have := hfreeL b h
        exact .inr ⟨.inr this, this.m, this.l q, q1⟩
    · refine ⟨?_, .inl hb, (hi1.own q b hb).2.2⟩
      have := hi1.ob_lt hb
      have := hfc.size
      omega
    · intro r u hs
      rw [hq1] at hs
      rw [St.setO_same, Gh.setO_eq.1, Gh.setO_eq.2.1]
      exact see_cells (by simp [hpl]) hs
    · unfold ObR; rw [St.setO_same]; rw [Gh.setO_eq.1, Gh.setO_eq.2.2, ga1]
      refine ⟨hL1, fun j c hj => ?_⟩
      rw [Gh.setO_eq.1]
      have hlt : j < us2.length := by have := (List.getElem?_eq_some_iff.1 hj).1; simp at this; omega
      obtain ⟨r1, r2⟩ := hcell2 j us2[j] (List.getElem?_eq_getElem hlt)
      refine ⟨us2[j], r1, r2, hc2.2 _ (List.getElem_mem hlt), fun hlt' => hR _ hlt' (by omega) (by omega), ?_⟩
      simp only [List.getElem?_map, Option.map_eq_some_iff] at hj
      obtain ⟨_, _, rfl⟩ := hj
      trivial
  generalize hg2 : g1.setO q (g1.addr q) (g1.base q) (g1.L q) = g2 at hi2
  have hg2L : ∀ x, g2.L x = g1.L x := fun x => by
    rw [← hg2]
    by_cases ex : x = q
    · rw [ex, Gh.setO_eq.2.2]
    · rw [(Gh.setO_ne ex).2.2]
  have hg2a : g2.addr q = g.addr q := by rw [← hg2, Gh.setO_eq.1, ga1]
  have hfree2 : ∀ b ∈ L' ++ Lr, Free K I' g2 b := fun b hb => by
    obtain ⟨q1, q2, q3, q4⟩ := hown' b hb
    have := hfreeL b q4
    exact ⟨q1, fun x hx' => this.l x (by rw [← hg2L]; exact hx'), this.m⟩
  obtain ⟨hb1, hb2⟩ := freeR_ok hfrb
  have hqlt : (σ.kills os).objs q ≠ none := by rw [hq1]; simp
  have hout : q < idb ∨ idb + ss'.length ≤ q := by
    rcases Nat.lt_or_ge q idb with h | h
    · exact .inl h
    · rcases Nat.lt_or_ge q (idb + ss'.length) with h2 | h2
      · exact absurd (hb2 q h h2) hqlt
      · exact .inr h2
  have hfrb2 : freeR ((σ.kills os).setO q (.cells (ss'.map fun _ => .any))).objs ss'.length idb = true := by
    have key : ∀ (n b : Nat), freeR (σ.kills os).objs n b = true → freeR ((σ.kills os).setO q (.cells (ss'.map fun _ => .any))).objs n b = true := by
      intro n
      induction n with
      | zero => intro b h; exact h
      | succ n ih =>
        intro b h
        obtain ⟨h1, h2⟩ := Bool.and_eq_true_iff.1 h
        refine Bool.and_eq_true_iff.2 ⟨?_, ih _ h2⟩
        have hne : b ≠ q := fun e => by
          have := (isNew_ok h1).1
          rw [e] at this; exact hqlt this
        unfold isNew at h1 ⊢
        rw [St.setO_other _ _ _ _ hne]; exact h1
    exact key _ _ hfrb
  obtain ⟨g3, hi3, f3, c3, _, n3, o3, l3⟩ := hi2.cellsN hr2 nd1 (fun b hb => hfree2 b (by simp [hb])) hfrb2
  have hq3 : (enC idb ss' ((σ.kills os).setO q (.cells (ss'.map fun _ => .any)))).objs q = some (.cells (ss'.map fun _ => .any)) := by rw [(o3 q hout).1, St.setO_same]
  have hi4 := hi3.tellBox (cs := enL idb ss') hq3 (by rw [enL_len]; simp) fun j c hj => by
    obtain ⟨u, r1, _, r2⟩ := c3 j c hj
    refine ⟨u, ?_, r2⟩
    rw [(o3 q hout).2, hg2a]
    exact (hcell2 j u r1).1
  have hfree4 : ∀ b ∈ Lr, Free K I' (g3.setO q (g3.addr q) (g3.base q) (g3.L q)) b := fun b hb => by
    have := f3 b (hfree2 b (by simp [hb])) fun h => nd3 b h b hb rfl
    refine ⟨this.i, fun x hx' => ?_, this.m⟩
    by_cases ex : x = q
    · rw [ex, Gh.setO_eq.2.2] at hx'; exact this.l q hx'
    · rw [(Gh.setO_ne ex).2.2] at hx'; exact this.l x hx'
  have hn4 : (σ.boxed q idb os ss').n = σ.n := n3.trans hn1
  obtain ⟨g', hfin⟩ := hi4.res hres nd2 hfree4 hfr (by rw [← hn4] at ht; exact ht)
  cases d with
  | none => simp only [Act.put, hd]; exact ⟨trivial, _, _, _, hN, hfin⟩
  | some t => simp only [Act.put, hd]; exact ⟨trivial, _, _, _, hN, hfin⟩
end Go.LX

