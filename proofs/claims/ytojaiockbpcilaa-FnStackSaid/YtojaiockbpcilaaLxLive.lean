/- Calls of functions that write: into a slice that they are handed, into a box. -/
import Derived.Test.YtojaiockbpcilaaLxCall
set_option linter.unusedVariables false
set_option linter.unusedSimpArgs false
namespace Go.LX

variable {P : Program} {σ : St}

/-- All but the argument at k is data. -/
def aPs (ob : Nat → Option Ob) : Nat → List SA → List SV → Prop
  | 0, _ :: as, _ :: vs => dPs false ob as vs
  | k + 1, a :: as, v :: vs => dP false ob a v ∧ aPs ob k as vs
  | _, _, _ => False
def S0.noOwn : S0 → Bool
  | .own .. => false
  | _ => true
def SA.noOwn : SA → Bool
  | .c s => s.noOwn
  | .ag ss => ss.all S0.noOwn
  | .bx _ => false
  | .sem _ => true
  | .pd _ _ => true
  | .nl => true
def nOs : Nat → List SA → Bool
  | 0, _ :: as => as.all SA.noOwn
  | k + 1, a :: as => a.noOwn && nOs k as
  | _, [] => false
section
variable {K : Ctx} {w w' : World} {I I' : Nat → Prop} {g : Gh} {tm : Array Value}
theorem aPs_ok [Glob] (hi : Inv K w I g σ tm) : ∀ {k : Nat} {ss : List SA} {xs : List Operand} {a : SA} {x : Operand} {L : List Nat} {B : List (Nat × Nat × Nat)}, aPs σ.objs k ss (xs.map σ.ev) → ss[k]? = some a → xs[k]? = some x → AR w I a (Act.eval ⟨tm, []⟩ x) L B → ARs w I ss (xs.map (Act.eval ⟨tm, []⟩)) L B
  | 0, s :: ss, y :: xs, a, x, L, B, h, ha, hx, hr => by
    simp at ha hx
    subst ha; subst hx
    exact ⟨L, [], B, [], by simp, by simp, hr, dPs_ok hi (a := false) (fun _ h => h) (fun h => by cases h) h⟩
  | k + 1, s :: ss, y :: xs, a, x, L, B, h, ha, hx, hr => ⟨[], L, [], B, rfl, rfl, dP_ok hi (a := false) (fun _ h => h) (fun h => by cases h) h.1, aPs_ok hi h.2 (by simpa using ha) (by simpa using hx) hr⟩
  | 0, [], _, _, _, _, _, h, _, _, _ => h.elim
  | 0, _ :: _, [], _, _, _, _, h, _, _, _ => h.elim
  | _ + 1, [], _, _, _, _, _, h, _, _, _ => h.elim
  | _ + 1, _ :: _, [], _, _, _, _, h, _, _, _ => h.elim
theorem SRs.noOwn : ∀ {ss : List S0} {us : List Value} {L : List Nat}, ss.all S0.noOwn = true → SRs w I ss us L → L = []
  | [], _, _, _, h => h.2
  | s :: ss, _, _, hn, h => by
    obtain ⟨u1, us2, L1, L2, rfl, rfl, ⟨u, rfl, hs⟩, h2⟩ := h
    simp only [List.all_cons, Bool.and_eq_true] at hn
    have := SRs.noOwn hn.2 h2
    subst this
    cases s with
    | own => cases hn.1
    | d t x => simp [hs.1]
    | any => simp [hs.1]
theorem AR.noOwn {a : SA} {u : Value} {L : List Nat} {B : List (Nat × Nat × Nat)} (hn : a.noOwn = true) (h : AR w I a u L B) : L = [] ∧ B = [] := by
  cases a with
  | c s =>
    cases s with
    | own => cases hn
    | d t x => exact ⟨h.2.1, h.1⟩
    | any => exact ⟨h.2.1, h.1⟩
  | ag ss => obtain ⟨hB, us, _, hs⟩ := h; exact ⟨SRs.noOwn hn hs, hB⟩
  | bx ss => cases hn
  | sem φ => exact ⟨h.1, h.2.1⟩
  | pd t x => exact ⟨h.1, h.2.1⟩
  | nl => exact ⟨h.1, h.2.1⟩
theorem ARs.noOwn : ∀ {as : List SA} {us : List Value} {L : List Nat} {B : List (Nat × Nat × Nat)}, as.all SA.noOwn = true → ARs w I as us L B → L = [] ∧ B = []
  | [], [], _, _, _, h => h
  | a :: as, u :: us, L, B, hn, h => by
    obtain ⟨L1, L2, B1, B2, rfl, rfl, h1, h2⟩ := h
    simp only [List.all_cons, Bool.and_eq_true] at hn
    obtain ⟨e1, e2⟩ := AR.noOwn hn.1 h1
    obtain ⟨e3, e4⟩ := ARs.noOwn hn.2 h2
    simp [e1, e2, e3, e4]
  | [], _ :: _, _, _, _, h => h.elim
  | _ :: _, [], _, _, _, h => h.elim
theorem ARs.at : ∀ {k : Nat} {as : List SA} {us : List Value} {L : List Nat} {B : List (Nat × Nat × Nat)} {b : SA} {u : Value}, nOs k as = true → ARs w I as us L B → as[k]? = some b → us[k]? = some u → AR w I b u L B
  | 0, a :: as, v :: us, L, B, b, u, hn, h, hb, hu => by
    obtain ⟨L1, L2, B1, B2, rfl, rfl, h1, h2⟩ := h
    obtain ⟨e3, e4⟩ := ARs.noOwn hn h2
    simp at hb hu
    subst hb; subst hu
    simpa [e3, e4] using h1
  | k + 1, a :: as, v :: us, L, B, b, u, hn, h, hb, hu => by
    obtain ⟨L1, L2, B1, B2, rfl, rfl, h1, h2⟩ := h
    obtain ⟨n1, n2⟩ := Bool.and_eq_true_iff.1 hn
    obtain ⟨e3, e4⟩ := AR.noOwn n1 h1
    have := ARs.at n2 h2 (by simpa using hb) (by simpa using hu)
    simpa [e3, e4] using this
  | _, [], _, _, _, _, _, _, _, hb, _ => by simp at hb
  | _, _ :: _, [], _, _, _, _, _, _, _, hu => by simp at hu
end

def obOf : S0 → Ob
  | .own e t dp xs => .rows e t dp xs
  | _ => .dead
def poB (t : Ty) : S0 → Bool
  | .own _ t' dp _ => !dp && Nat.beq t'.w t.w
  | .any => true
  | .d .. => false
/-- A function that is handed one slice that it may write: the core. -/
theorem op_callG [Glob] {o : Oper} {d : Option Nat} {f : FuncId} {xs : List Operand} {tys : Array TypeId} {args post : List SA} {res : RS} {id k q : Nat} {x : Operand} {e : TypeId} {t : Ty} {ys : List t.T} {s' : S0} {sa sb : SA} {N : St → Prop} (hF : FnC P f args post res) (ho : o.op = .call { callee := .value (.func f), args := xs.toArray, argTypes := tys }) (hd : o.dst = d) (ht : dstB σ.n d = true) (hf : fnB P f = true)
    (hk : args[k]? = some sa) (hx : xs[k]? = some x) (hq : σ.objs q = some (.rows e t false ys)) (hargs : aPs σ.objs k args (xs.map σ.ev)) (hpk : post[k]? = some sb) (hpb : poB t s' = true) (hpn : nOs k post = true)
    (hA : ∀ (K : Ctx) (w : World) (I : Nat → Prop) (g : Gh) (tm : Array Value), Inv K w I g σ tm → AR w I sa (Act.eval ⟨tm, []⟩ x) (g.L q) [] ∧ ∀ (w' : World) (I' : Nat → Prop) (L' : List Nat), AR w' I' sb (Act.eval ⟨tm, []⟩ x) L' [] → SR w' I' s' (g.base q) L')
    (hid : newR (σ.setO q (obOf s')).objs d res.cells.length = some id) (hN : N ((enC id res.cells (σ.setO q (obOf s'))).putD d (res.svN id))) : OpW P o N σ := by
  intro K w I g tm hi
  rw [fnB_run ho hf]
  simp only [Oper.upon]
  obtain ⟨har, hAp⟩ := hA K w I g tm hi
  have hoa := hi.rows hq
  refine (hF w I _ (g.L q) [] ⟨fun b hb => (hi.immX b hb).1, hi.glob⟩ (aPs_ok hi hargs hk hx har) (by simpa using hi.nod q) (fun b hb => by simp at hb; exact ⟨(hi.own q b hb).1, hi.ob_lt hb⟩)).mono ?_
  rintro ee w' ⟨v, rfl, hfc, I', L', Lr, hI1, hI2, hpost, hres, hnd, hown⟩
  have hr := hAp w' I' L' (hpost.at hpn hpk (u := Act.eval ⟨tm, []⟩ x) (by simp [hx]))
  have hmine : ∀ b ∈ g.L q, K.mine b := fun b hb => hi.own_mine hq (fun _ h => by cases h) hb
  have hgr : Grow w w' fun b => b ∈ g.L q := ⟨hfc.os, hfc.tape, hfc.output, hfc.size, fun b hb hn => hfc.old b hb hn (by simp)⟩
  have hown' : ∀ b ∈ L' ++ Lr, ¬ I' b ∧ b < w'.heap.size ∧ (b ∈ g.L q ∨ Free K I g b) := fun b hb => by
    obtain ⟨q1, _, q3, q4⟩ := hown b hb
    refine ⟨q1, q3, ?_⟩
    by_cases hlt : b < w.heap.size
    · exact .inl (q4 hlt)
    · exact .inr (free_new hi (Nat.le_of_not_lt hlt))
  obtain ⟨nd1, nd2, nd3⟩ := List.nodup_append.1 hnd
  have step : ∀ (p : Ob) (L2 : List Nat), p = obOf s' → (∀ b ∈ L2, b ∈ L') → L2.Nodup → Keep w I g σ.objs w' I' (g.setO q (g.addr q) (g.base q) L2) (σ.setO q p).objs q → ((∀ x, Keep w I g σ.objs w' I' (g.setO q (g.addr q) (g.base q) L2) (σ.setO q p).objs x) → (∀ b, I b → I' b ∧ ∀ f, w'.cell? ⟨b, f, none⟩ = w.cell? ⟨b, f, none⟩) → ObR K w' I' (g.setO q (g.addr q) (g.base q) L2) (σ.setO q p).objs q) →
      Inv K w' I' (g.setO q (g.addr q) (g.base q) L2) (σ.setO q (obOf s')) tm := by
    intro p L2 hp hsub hnd2 hkk hob
    subst hp
    refine hi.one hgr (fun b hb => .inl hb) (hi.fr.step hgr hmine) hI1 (fun b hb => ?_) hnd2 (fun b hb => ?_) (fun a ha => absurd ha (hi.noE hq (fun _ h => by cases h) a)) (fun v hv => (hi.exB q v hv).2 _ hq) hkk hob
    · obtain ⟨q1, q2⟩ := hI2 b hb
      by_cases hlt : b < w.heap.size
      · rcases q2 hlt with h | h
        · exact .inl h
        · exact .inr ⟨.inl h, hmine b h, fun hb2 => (hown' b (by simp [hsub b hb2])).1 hb, q1⟩
      · have hfree := free_new hi (Nat.le_of_not_lt hlt)
        exact .inr ⟨.inr hfree, hfree.m, fun hb2 => (hown' b (by simp [hsub b hb2])).1 hb, q1⟩
    · obtain ⟨q1, q2, q3⟩ := hown' b (by simp [hsub b hb])
      exact ⟨q2, q3, .inl (q3.elim (hmine b) fun h => h.m)⟩
  have fin : ∀ (L2 : List Nat), (∀ b ∈ L2, b ∈ L') → Inv K w' I' (g.setO q (g.addr q) (g.base q) L2) (σ.setO q (obOf s')) tm → (Act.put ⟨tm, []⟩ o.dst v).defers = [] ∧ ∃ σ' I' g', N σ' ∧ Inv K w' I' g' σ' (Act.put ⟨tm, []⟩ o.dst v).tmps := by
    intro L2 hsub hi2
    have hfree : ∀ b ∈ Lr, Free K I' (g.setO q (g.addr q) (g.base q) L2) b := by
      intro b hb
      obtain ⟨q1, q2, q3⟩ := hown' b (by simp [hb])
      refine ⟨q1, fun y hy => ?_, q3.elim (hmine b) fun h => h.m⟩
      by_cases ey : y = q
      · rw [ey, Gh.setO_eq.2.2] at hy
        exact nd3 b (hsub b hy) b hb rfl
      · rw [(Gh.setO_ne ey).2.2] at hy
        rcases q3 with h | h
        · exact ey (hi.dis y q b hy h)
        · exact h.l y hy
    obtain ⟨g', hfin⟩ := hi2.res hres nd2 hfree (newR_ok hid) ht
    cases d with
    | none => simp only [Act.put, hd]; exact ⟨trivial, _, _, _, hN, hfin⟩
    | some t => simp only [Act.put, hd]; exact ⟨trivial, _, _, _, hN, hfin⟩
  cases s' with
  | d t0 x0 => cases hpb
  | any =>
    refine fin [] (by simp) (step .dead [] rfl (by simp) List.nodup_nil ?_ fun _ _ => ?_)
    · intro r u _
      rw [St.setO_same]; simp only [seeO]; exact see_dead
    · unfold ObR; rw [St.setO_same]; exact Gh.setO_eq.2.2
  | own e' t' dp' xs' =>
    obtain ⟨p1, p2⟩ := Bool.and_eq_true_iff.1 hpb
    have p2 := Nat.eq_of_beq_eq_true p2
    cases dp' with
    | true => cases p1
    | false =>
      have hr : OA w' I' false e' t' xs' (g.base q) L' := hr
      have hlen : xs'.length = ys.length := by
        obtain ⟨A, c, e1, _⟩ := hr.rt
        obtain ⟨A2, c2, e2, _⟩ := hoa.rt
        simp only [List.cons.injEq, and_true] at e1 e2
        rw [e1] at e2
        simp only [Value.slice.injEq] at e2
        exact e2.2.1
      refine fin L' (fun _ h => h) (step (.rows e' t' false xs') L' rfl (fun _ h => h) nd1 ?_ fun _ _ => ?_)
      · intro r u hs
        rw [hq] at hs
        rw [St.setO_same, Gh.setO_eq.1, Gh.setO_eq.2.1]
        simp only [seeO] at hs ⊢
        cases r <;> first | exact hs | trivial | (simp only [see] at hs ⊢; rw [hlen, p2]; exact hs)
      · unfold ObR; rw [St.setO_same]; rw [Gh.setO_eq.2.1, Gh.setO_eq.2.2]; exact hr

/-- A function that is handed a slice that it may write. -/
theorem op_callO [Glob] {o : Oper} {d : Option Nat} {f : FuncId} {xs : List Operand} {tys : Array TypeId} {args post : List SA} {res : RS} {id k q : Nat} {x : Operand} {e : TypeId} {t : Ty} {ys : List t.T} {s' : S0} {N : St → Prop} (hF : FnC P f args post res) (ho : o.op = .call { callee := .value (.func f), args := xs.toArray, argTypes := tys }) (hd : o.dst = d) (ht : dstB σ.n d = true) (hf : fnB P f = true)
    (hk : args[k]? = some (.c (.own e t false ys))) (hx : xs[k]? = some x) (hv : σ.ev x = .one (.rf q .ar)) (hq : σ.objs q = some (.rows e t false ys)) (hargs : aPs σ.objs k args (xs.map σ.ev)) (hpk : post[k]? = some (.c s')) (hpb : poB t s' = true) (hpn : nOs k post = true)
    (hid : newR (σ.setO q (obOf s')).objs d res.cells.length = some id) (hN : N ((enC id res.cells (σ.setO q (obOf s'))).putD d (res.svN id))) : OpW P o N σ := by
  refine op_callG hF ho hd ht hf hk hx hq hargs hpk hpb hpn (fun K w I g tm hi => ?_) hid hN
  have hu : Act.eval ⟨tm, []⟩ x = g.base q := by
    have hp := (hi.ev_one hv).1
    have hp' : seeO w I (g.addr q) (g.base q) (g.L q) (σ.objs q) .ar (Act.eval ⟨tm, []⟩ x) := hp
    rw [hq] at hp'; exact hp'
  rw [hu]
  exact ⟨⟨rfl, hi.rows hq⟩, fun w' I' L' h => h.2⟩
/-- All but the cell at j owns nothing. -/
def nOc : Nat → List S0 → Bool
  | 0, _ :: ss => ss.all S0.noOwn
  | j + 1, s :: ss => s.noOwn && nOc j ss
  | _, [] => false
theorem SRs.at {w : World} {I : Nat → Prop} : ∀ {j : Nat} {ss : List S0} {us : List Value} {L : List Nat} {s : S0} {u : Value}, nOc j ss = true → SRs w I ss us L → ss[j]? = some s → us[j]? = some u → SR w I s u L
  | 0, a :: ss, us, L, s, u, hn, h, hs, hu => by
    obtain ⟨u1, us2, L1, L2, rfl, rfl, ⟨v, rfl, h1⟩, h2⟩ := h
    have e := SRs.noOwn hn h2
    simp at hs hu
    subst hs; subst hu
    simpa [e] using h1
  | j + 1, a :: ss, us, L, s, u, hn, h, hs, hu => by
    obtain ⟨u1, us2, L1, L2, rfl, rfl, ⟨v, rfl, h1⟩, h2⟩ := h
    obtain ⟨n1, n2⟩ := Bool.and_eq_true_iff.1 hn
    have e : L1 = [] := by
      cases a with
      | own => cases n1
      | d t x => exact h1.1
      | any => exact h1.1
    have := SRs.at n2 h2 (by simpa using hs) (by simpa using hu)
    simpa [e] using this
  | _, [], _, _, _, _, _, _, hs, _ => by simp at hs
/-- A function that is handed a struct, one of whose slices it may write. -/
theorem op_callA [Glob] {o : Oper} {d : Option Nat} {f : FuncId} {xs : List Operand} {tys : Array TypeId} {args post : List SA} {res : RS} {id k j q : Nat} {x : Operand} {e : TypeId} {t : Ty} {ys : List t.T} {ss ss' : List S0} {cs : List C} {s' : S0} {N : St → Prop} (hF : FnC P f args post res) (ho : o.op = .call { callee := .value (.func f), args := xs.toArray, argTypes := tys }) (hd : o.dst = d) (ht : dstB σ.n d = true) (hf : fnB P f = true)
    (hk : args[k]? = some (.ag ss)) (hx : xs[k]? = some x) (hv : σ.ev x = .ag cs) (hms : msPs σ.objs ss cs) (hos : msOs ss cs = [q]) (hj : cs[j]? = some (.rf q .ar)) (hq : σ.objs q = some (.rows e t false ys)) (hargs : aPs σ.objs k args (xs.map σ.ev)) (hpk : post[k]? = some (.ag ss')) (hs' : ss'[j]? = some s') (hnj : nOc j ss' = true) (hpb : poB t s' = true) (hpn : nOs k post = true)
    (hid : newR (σ.setO q (obOf s')).objs d res.cells.length = some id) (hN : N ((enC id res.cells (σ.setO q (obOf s'))).putD d (res.svN id))) : OpW P o N σ := by
  refine op_callG hF ho hd ht hf hk hx hq hargs hpk hpb hpn (fun K w I g tm hi => ?_) hid hN
  obtain ⟨hsh, hcs⟩ := hi.ev x hv
  obtain ⟨us, hu, hul, h1⟩ := hsh
  have hcs' : ∀ (i : Nat) (c : C), cs[i]? = some c → ∃ u, us[i]? = some u ∧ u.oneCell' = true ∧ CR w I g σ.objs c u := fun i c hc => by
    obtain ⟨u, q1, q2⟩ := hcs i c hc
    rw [hu] at q1
    have q1 : us[i]? = some u := by simpa [valCells, Value.cells] using q1
    exact ⟨u, q1, h1 u (List.mem_of_getElem? q1), q2⟩
  have hsr := SRs.of hi hms hul hcs'
  rw [hos] at hsr
  simp only [List.flatMap_cons, List.flatMap_nil, List.append_nil] at hsr
  obtain ⟨uj, r1, _, r2⟩ := hcs' j _ hj
  have hb : uj = g.base q := by
    have r2' : seeO w I (g.addr q) (g.base q) (g.L q) (σ.objs q) .ar uj := r2
    rw [hq] at r2'; exact r2'
  refine ⟨⟨rfl, us, hu, hsr⟩, fun w' I' L' h => ?_⟩
  obtain ⟨_, us', hu', hs⟩ := h
  rw [hu] at hu'
  have : us' = us := by simpa using hu'.symm
  subst this
  rw [← hb]
  exact hs.at hnj hs' r1
end Go.LX
