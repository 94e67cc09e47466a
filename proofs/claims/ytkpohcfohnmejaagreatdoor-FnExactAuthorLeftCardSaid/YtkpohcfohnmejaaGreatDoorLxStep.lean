/- A part of the proof of the statement in the row text. -/
import Derived.Test.YtkpohcfohnmejaaGreatDoorLxLiveB
import Derived.Orders
/- Regions that draw their order: each operation by what it reads and writes; what does not meet may be swapped. -/
set_option linter.unusedVariables false
set_option linter.unusedSimpArgs false
namespace Go.LX

variable {P : Program}

def lookO : List (Nat × SV) → Nat → SV → SV
  | [], _, d => d
  | x :: r, t, d => bif Nat.beq t x.1 then x.2 else lookO r t d
def lookOB : List (Nat × Option Ob) → Nat → Option Ob → Option Ob
  | [], _, d => d
  | x :: r, t, d => bif Nat.beq t x.1 then x.2 else lookOB r t d
/-- A state with some slots and objs told anew. -/
def St.over (σ : St) (us : List (Nat × SV)) (ub : List (Nat × Option Ob)) : St := ⟨σ.n, fun t => lookO us t (σ.slots t), fun o => lookOB ub o (σ.objs o)⟩

/-- What one operation reads and writes; the places that nothing else may name then. -/
structure Eff where
  rs : List (Nat × SV)
  bs : List (Nat × Option Ob)
  us : List (Nat × SV)
  ub : List (Nat × Option Ob)

def Agr (σ : St) (e : Eff) : Prop := (∀ x ∈ e.rs, σ.slots x.1 = x.2) ∧ (∀ x ∈ e.bs, σ.objs x.1 = x.2)

theorem lookO_not {us : List (Nat × SV)} {t : Nat} {d : SV} (h : t ∉ us.map (·.1)) : lookO us t d = d := by
  induction us with
  | nil => rfl
  | cons x r ih =>
    simp only [List.map_cons, List.mem_cons, not_or] at h
    simp only [lookO, beq_ne h.1, cond_false]
    exact ih h.2
theorem lookO_mem {us : List (Nat × SV)} {t : Nat} {d d' : SV} (h : t ∈ us.map (·.1)) : lookO us t d = lookO us t d' := by
  induction us with
  | nil => simp at h
  | cons x r ih =>
    by_cases e : t = x.1
    · subst e; simp [lookO]
    · simp only [lookO, beq_ne e, cond_false]
      exact ih (by simpa [e] using h)
theorem lookOB_not {us : List (Nat × Option Ob)} {t : Nat} {d : Option Ob} (h : t ∉ us.map (·.1)) : lookOB us t d = d := by
  induction us with
  | nil => rfl
  | cons x r ih =>
    simp only [List.map_cons, List.mem_cons, not_or] at h
    simp only [lookOB, beq_ne h.1, cond_false]
    exact ih h.2
theorem lookOB_mem {us : List (Nat × Option Ob)} {t : Nat} {d d' : Option Ob} (h : t ∈ us.map (·.1)) : lookOB us t d = lookOB us t d' := by
  induction us with
  | nil => simp at h
  | cons x r ih =>
    by_cases e : t = x.1
    · subst e; simp [lookOB]
    · simp only [lookOB, beq_ne e, cond_false]
      exact ih (by simpa [e] using h)
theorem lookO_self {us : List (Nat × SV)} {t : Nat} {σ : St} (h : ∀ x ∈ us, σ.slots x.1 = x.2) : lookO us t (σ.slots t) = σ.slots t := by
  induction us with
  | nil => rfl
  | cons x r ih =>
    by_cases e : t = x.1
    · simp only [lookO]; rw [e, Nat.beq_refl, cond_true]; exact (h x (by simp)).symm
    · simp only [lookO, beq_ne e, cond_false]; exact ih fun y hy => h y (by simp [hy])
theorem lookOB_self {us : List (Nat × Option Ob)} {t : Nat} {σ : St} (h : ∀ x ∈ us, σ.objs x.1 = x.2) : lookOB us t (σ.objs t) = σ.objs t := by
  induction us with
  | nil => rfl
  | cons x r ih =>
    by_cases e : t = x.1
    · simp only [lookOB]; rw [e, Nat.beq_refl, cond_true]; exact (h x (by simp)).symm
    · simp only [lookOB, beq_ne e, cond_false]; exact ih fun y hy => h y (by simp [hy])
theorem over_self {σ : St} {e : Eff} (h : Agr σ e) : σ.over e.rs e.bs = σ := by
  unfold St.over
  cases σ with
  | mk n s b =>
    congr 1
    · funext t; exact lookO_self (σ := ⟨n, s, b⟩) h.1
    · funext t; exact lookOB_self (σ := ⟨n, s, b⟩) h.2

def memN (x : Nat) : List Nat → Bool
  | [] => false
  | y :: r => Nat.beq x y || memN x r
theorem memN_iff {x : Nat} {l : List Nat} : memN x l = true ↔ x ∈ l := by
  induction l with
  | nil => simp [memN]
  | cons y r ih => simp [memN, ih, Nat.beq_eq]
/-- One operation, run or passed over as its guard says. -/
def One [Glob] (P : Program) (ops : Array Oper) (o : Oper) (N : St → Prop) (σ : St) : Prop :=
  ∀ (K : Ctx) (w : World) (I : Nat → Prop) (g : Gh) (tm : Array Value), Inv K w I g σ tm →
    if Region.wanted o (yielded ops tm) then
      o.upon P ⟨tm, []⟩ (fun a w' => a.defers = [] ∧ ∃ σ' I' g', N σ' ∧ Inv K w' I' g' σ' a.tmps) (fun _ _ _ => False) ((execOp (Act.eval ⟨tm, []⟩) o).run P w)
    else ∃ σ' I' g', N σ' ∧ Inv K w I' g' σ' (Act.put ⟨tm, []⟩ o.dst undef).tmps
def Loc [Glob] (P : Program) (ops : Array Oper) (o : Oper) (e : Eff) (n : Nat) : Prop :=
  ∀ σ0 : St, σ0.n = n → Agr σ0 e → One P ops o (fun σ' => σ' = σ0.over e.us e.ub) σ0

structure It where
  i : Nat
  o : Oper
  e : Eff
def Chain [Glob] (P : Program) (ops : Array Oper) (n : Nat) : List It → St → St → Prop
  | [], σ, σ' => σ' = σ
  | x :: l, σ, σ' => Loc P ops x.o x.e n ∧ Agr σ x.e ∧ Chain P ops n l (σ.over x.e.us x.e.ub) σ'

def meet (a b : List Nat) : Bool := a.any fun x => memN x b
def Eff.wr (e : Eff) : List Nat := e.us.map (·.1)
def Eff.wb (e : Eff) : List Nat := e.ub.map (·.1)
def Eff.rd (e : Eff) : List Nat := e.rs.map (·.1)
def Eff.rb (e : Eff) : List Nat := e.bs.map (·.1)
/-- A footprint: what is read and written, by numbers. -/
structure Fp where
  rd : List Nat
  rb : List Nat
  wr : List Nat
  wb : List Nat
def Eff.fp (e : Eff) : Fp := ⟨e.rd, e.rb, e.wr, e.wb⟩
def conflF (a b : Fp) : Bool := meet a.wr b.rd || meet a.wr b.wr || meet a.rd b.wr || meet a.wb b.rb || meet a.wb b.wb || meet a.rb b.wb
def confl (a b : Eff) : Bool := conflF a.fp b.fp

theorem meet_false {a b : List Nat} (h : meet a b = false) : ∀ x ∈ a, x ∉ b := by
  intro x hx hb
  have : meet a b = true := List.any_eq_true.2 ⟨x, hx, memN_iff.2 hb⟩
  rw [h] at this; cases this

theorem Agr.over {σ : St} {e f : Eff} (h : Agr σ e) (h1 : ∀ x ∈ f.wr, x ∉ e.rd) (h2 : ∀ x ∈ f.wb, x ∉ e.rb) : Agr (σ.over f.us f.ub) e := by
  refine ⟨fun x hx => ?_, fun x hx => ?_⟩
  · show lookO f.us x.1 (σ.slots x.1) = x.2
    rw [lookO_not fun hm => h1 _ hm (List.mem_map.2 ⟨x, hx, rfl⟩)]
    exact h.1 x hx
  · show lookOB f.ub x.1 (σ.objs x.1) = x.2
    rw [lookOB_not fun hm => h2 _ hm (List.mem_map.2 ⟨x, hx, rfl⟩)]
    exact h.2 x hx
theorem Agr.of_over {σ : St} {e f : Eff} (h : Agr (σ.over f.us f.ub) e) (h1 : ∀ x ∈ f.wr, x ∉ e.rd) (h2 : ∀ x ∈ f.wb, x ∉ e.rb) : Agr σ e := by
  refine ⟨fun x hx => ?_, fun x hx => ?_⟩
  · have := h.1 x hx
    simp only [St.over] at this
    rwa [lookO_not fun hm => h1 _ hm (List.mem_map.2 ⟨x, hx, rfl⟩)] at this
  · have := h.2 x hx
    simp only [St.over] at this
    rwa [lookOB_not fun hm => h2 _ hm (List.mem_map.2 ⟨x, hx, rfl⟩)] at this
theorem over_comm {σ : St} {e f : Eff} (h1 : ∀ x ∈ e.wr, x ∉ f.wr) (h2 : ∀ x ∈ e.wb, x ∉ f.wb) : (σ.over e.us e.ub).over f.us f.ub = (σ.over f.us f.ub).over e.us e.ub := by
  unfold St.over
  congr 1
  · funext t
    simp only
    by_cases ht : t ∈ e.us.map (·.1)
    · rw [lookO_not (h1 t ht)]; exact lookO_mem ht
    · rw [lookO_not ht, lookO_not ht]
  · funext t
    simp only
    by_cases ht : t ∈ e.ub.map (·.1)
    · rw [lookOB_not (h2 t ht)]; exact lookOB_mem ht
    · rw [lookOB_not ht, lookOB_not ht]

theorem Chain.swap [Glob] {ops : Array Oper} {n : Nat} {x y : It} {l : List It} {σ σ' : St} (h : Chain P ops n (x :: y :: l) σ σ') (hc : confl x.e y.e = false) : Chain P ops n (y :: x :: l) σ σ' := by
  simp only [confl, conflF, Eff.fp, Bool.or_eq_false_iff] at hc
  obtain ⟨⟨⟨⟨⟨c1, c2⟩, c3⟩, c4⟩, c5⟩, c6⟩ := hc
  obtain ⟨l1, a1, l2, a2, hl⟩ := h
  have m1 := meet_false c1
  have m2 := meet_false c2
  have m3 := meet_false c3
  have m4 := meet_false c4
  have m5 := meet_false c5
  have m6 := meet_false c6
  refine ⟨l2, a2.of_over m1 m4, l1, a1.over (fun z hz hr => m3 z hr hz) (fun z hz hr => m6 z hr hz), ?_⟩
  rw [← over_comm m2 m5]
  exact hl
theorem Chain.front [Glob] {ops : Array Oper} {n : Nat} {x : It} {l2 : List It} : ∀ {l1 : List It} {σ σ' : St}, Chain P ops n (l1 ++ x :: l2) σ σ' → (∀ y ∈ l1, confl y.e x.e = false) → Chain P ops n (x :: (l1 ++ l2)) σ σ'
  | [], _, _, h, _ => h
  | y :: l1, σ, σ', h, hc => by
    have h' : Chain P ops n (y :: x :: (l1 ++ l2)) σ σ' := ⟨h.1, h.2.1, Chain.front h.2.2 fun z hz => hc z (by simp [hz])⟩
    exact h'.swap (hc y (by simp))

/-- k stands before j by the edges that bind in every order. -/
inductive Tr (ops : Array Oper) : Nat → Nat → Prop where
  | base {j : Nat} {o : Oper} {e : Edge} : ops[j]? = some o → e ∈ o.after → Region.binds .any e = true → Tr ops e.on j
  | step {j k : Nat} {o : Oper} {e : Edge} : ops[j]? = some o → e ∈ o.after → Region.binds .any e = true → Tr ops k e.on → Tr ops k j

theorem binds_any {md : Region.Mode} {e : Edge} (h : Region.binds .any e = true) : Region.binds md e = true := by
  unfold Region.binds at h ⊢
  split <;> simp_all

/-- What is done is closed under what stands before. -/
def Closed (ops : Array Oper) (listed : Array Bool) : Prop := ∀ j o, ops[j]? = some o → listed.getD j false = true → ∀ e ∈ o.after, Region.binds .any e = true → listed.getD e.on false = true
theorem Closed.tr {ops : Array Oper} {listed : Array Bool} (h : Closed ops listed) {k j : Nat} (ht : Tr ops k j) : listed.getD j false = true → listed.getD k false = true := by
  induction ht with
  | base h1 h2 h3 => exact fun hj => h _ _ h1 hj _ h2 h3
  | step h1 h2 h3 _ ih => exact fun hj => ih (h _ _ h1 hj _ h2 h3)

theorem Tr.pre {ops : Array Oper} {listed : Array Bool} {k j : Nat} {o : Oper} (h : Tr ops k j) (hc : Closed ops listed) (ho : ops[j]? = some o) (hp : ∀ e ∈ o.after, Region.binds .any e = true → listed.getD e.on false = true) : listed.getD k false = true := by
  induction h with
  | base h1 h2 h3 => rw [ho] at h1; cases h1; exact hp _ h2 h3
  | step h1 h2 h3 h4 _ => rw [ho] at h1; cases h1; exact hc.tr h4 (hp _ h2 h3)
theorem getD_flip {listed : Array Bool} {i : Nat} (hi : i < listed.size) : listed.getD i true = listed.getD i false := by simp [hi]
theorem getD_set_eq {listed : Array Bool} {i j : Nat} (h : (listed.setIfInBounds i true).getD j false = true) : j = i ∨ listed.getD j false = true := by
  by_cases e : j = i
  · exact .inl e
  · rw [getD_set_ne false (Ne.symm e)] at h; exact .inr h

theorem draw_main [Glob] {ops : Array Oper} {md : Region.Mode} {Q : Exit → St → Prop} {n : Nat} {σ' : St} (hQ : Q .normal σ') (rk : Nat → Nat) (hedge : ∀ (i : Nat) (o : Oper), ops[i]? = some o → ∀ e ∈ o.after, Region.binds md e = true → e.on < ops.size ∧ rk e.on < rk i) (K : Ctx) :
    ∀ (fuel : Nat) (listed : Array Bool) (rem : List It) (σ : St), rem.length = fuel → listed.size = ops.size → σ.n = n →
      (∀ i o, ops[i]? = some o → listed.getD i true = false → ∃ x ∈ rem, x.i = i) → (∀ x ∈ rem, ops[x.i]? = some x.o ∧ listed.getD x.i true = false) →
      rem.Pairwise (fun x y => x.i < y.i ∧ (confl x.e y.e = true → Tr ops x.i y.i)) → Closed ops listed → Chain P ops n rem σ σ' →
      ∀ (w : World) (I : Nat → Prop) (g : Gh) (tm : Array Value), Inv K w I g σ tm →
        wpAny P md ops (fun e a w' => a.defers = [] ∧ ∃ σ' I' g', Q e σ' ∧ Inv K w' I' g' σ' a.tmps) fuel listed ⟨tm, []⟩ w := by
  intro fuel
  induction fuel with
  | zero =>
    intro listed rem σ hlen hsz hn hall hrem hpw hcl hch w I g tm hi
    obtain rfl := List.eq_nil_of_length_eq_zero hlen
    obtain rfl : σ' = σ := hch
    refine ⟨?_, rfl, σ', I, g, hQ, hi⟩
    refine List.eq_nil_iff_forall_not_mem.2 fun i hi' => ?_
    obtain ⟨h0, o, ho, _⟩ := mem_ready.1 hi'
    obtain ⟨x, hx, _⟩ := hall i o ho h0
    cases hx
  | succ fuel ih =>
    intro listed rem σ hlen hsz hn hall hrem hpw hcl hch w I g tm hi
    have hlt : ∀ i o, ops[i]? = some o → i < listed.size := fun i o ho => by rw [hsz]; exact (Array.getElem?_eq_some_iff.1 ho).1
    refine ⟨fun hnil => ?_, fun i hir => ?_⟩
    · -- what stands least can always go
      exfalso
      have hmin : ∃ x ∈ rem, ∀ y ∈ rem, rk x.i ≤ rk y.i := by
        have key : ∀ (l : List It), l ≠ [] → ∃ x ∈ l, ∀ y ∈ l, rk x.i ≤ rk y.i := by
          intro l
          induction l with
          | nil => intro h; exact absurd rfl h
          | cons z l ihl =>
            intro _
            by_cases hl : l = []
            · subst hl; exact ⟨z, by simp, fun y hy => by simp at hy; subst hy; exact Nat.le_refl _⟩
            · obtain ⟨x, hx, hm⟩ := ihl hl
              by_cases hz : rk z.i ≤ rk x.i
              · refine ⟨z, by simp, fun y hy => ?_⟩
                rcases List.mem_cons.1 hy with rfl | hy
                · exact Nat.le_refl _
                · exact Nat.le_trans hz (hm y hy)
              · refine ⟨x, by simp [hx], fun y hy => ?_⟩
                rcases List.mem_cons.1 hy with rfl | hy
                · omega
                · exact hm y hy
        exact key rem (fun h => by rw [h] at hlen; cases hlen)
      obtain ⟨x, hxm, hmin⟩ := hmin
      obtain ⟨hxo, hxl⟩ := hrem x hxm
      have : x.i ∈ Region.ready md ops listed := by
        refine mem_ready.2 ⟨hxl, x.o, hxo, fun e he hb => ?_⟩
        obtain ⟨hsz', hrk⟩ := hedge _ _ hxo e he hb
        cases hq : listed.getD e.on false with
        | true => rfl
        | false =>
          obtain ⟨y, hy, hyi⟩ := hall e.on ops[e.on] (Array.getElem?_eq_getElem hsz') (by rw [getD_flip (by rw [hsz]; exact hsz')]; exact hq)
          have := hmin y hy
          rw [hyi] at this
          omega
      rw [hnil] at this
      cases this
    · obtain ⟨h0, o, ho, hpre⟩ := mem_ready.1 hir
      obtain ⟨x, hx, hxi⟩ := hall i o ho h0
      subst hxi
      obtain ⟨hxo, _⟩ := hrem x hx
      rw [ho] at hxo
      obtain ⟨l1, l2, rfl⟩ := List.append_of_mem hx
      have hno : ∀ y ∈ l1, confl y.e x.e = false := by
        intro y hy
        cases hq : confl y.e x.e with
        | false => rfl
        | true =>
          exfalso
          have htr := ((List.pairwise_append.1 hpw).2.2 y hy x (by simp)).2 hq
          have hyl := (hrem y (by simp [hy])).2
          have hyo := (hrem y (by simp [hy])).1
          rw [getD_flip (hlt _ _ hyo)] at hyl
          have : listed.getD y.i false = true := htr.pre hcl ho fun e he hb => hpre e he (binds_any hb)
          rw [hyl] at this
          cases this
      obtain ⟨hloc, hagr, hch'⟩ := hch.front hno
      have hone := hloc σ hn hagr K w I g tm hi
      have hox : x.o = o := (Option.some.inj hxo).symm
      rw [hox] at hone
      -- what stands for the rest
      have next : ∀ (w : World) (I : Nat → Prop) (g : Gh) (tm : Array Value), Inv K w I g (σ.over x.e.us x.e.ub) tm →
          wpAny P md ops (fun e a w' => a.defers = [] ∧ ∃ σ' I' g', Q e σ' ∧ Inv K w' I' g' σ' a.tmps) fuel (listed.setIfInBounds x.i true) ⟨tm, []⟩ w := by
        refine ih _ (l1 ++ l2) _ ?_ (by simpa using hsz) hn ?_ ?_ ?_ ?_ hch'
        · simp at hlen ⊢; omega
        · intro j oj hj hl
          by_cases e : j = x.i
          · subst e
            have := hlt _ _ hj
            rw [getD_flip (by simpa using this)] at hl
            simp [this] at hl
          · rw [getD_set_ne true (Ne.symm e)] at hl
            obtain ⟨y, hy, hyi⟩ := hall j oj hj hl
            refine ⟨y, ?_, hyi⟩
            simp only [List.mem_append, List.mem_cons] at hy ⊢
            rcases hy with hy | rfl | hy
            · exact .inl hy
            · exact absurd hyi.symm e
            · exact .inr hy
        · intro y hy
          have hne : y.i ≠ x.i := by
            rcases List.mem_append.1 hy with hy | hy
            · exact Nat.ne_of_lt ((List.pairwise_append.1 hpw).2.2 y hy x (by simp)).1
            · exact Nat.ne_of_gt ((List.pairwise_cons.1 (List.pairwise_append.1 hpw).2.1).1 y hy).1
          have hy' : y ∈ l1 ++ x :: l2 := by
            simp only [List.mem_append, List.mem_cons] at hy ⊢
            exact hy.imp id .inr
          rw [getD_set_ne true (Ne.symm hne)]
          exact hrem y hy'
        · exact hpw.sublist (List.Sublist.append (List.Sublist.refl _) (List.sublist_cons_self _ _))
        · intro j oj hj hl e he hb
          rcases getD_set_eq hl with rfl | hl
          · rw [ho] at hj; cases hj
            exact getD_set_true (hpre e he (binds_any hb))
          · exact getD_set_true (hcl j oj hj hl e he hb)
      unfold wpOp
      simp only [ho]
      split
      · rename_i hw
        rw [if_pos hw] at hone
        refine .inl ?_
        refine upon_mono ?_ (fun e a w' h => h.elim) hone
        rintro ⟨tm', d'⟩ w' ⟨hd, σ1, I', g', rfl, r⟩
        obtain rfl : d' = [] := hd
        exact next w' I' g' tm' r
      · rename_i hw
        rw [if_neg hw] at hone
        obtain ⟨σ1, I', g', rfl, r⟩ := hone
        have e : Act.put ⟨tm, []⟩ o.dst undef = ⟨(Act.put ⟨tm, []⟩ o.dst undef).tmps, []⟩ := by cases o.dst <;> rfl
        rw [e]
        exact next w I' g' _ r

end Go.LX

/- Many operations at once: what runs without a choice. -/
set_option linter.unusedVariables false
set_option linter.unusedSimpArgs false
namespace Go.LX

variable {P : Program} {σ : St}

/-- A choice between two values. -/
def pickS : Bool → SV → SV → SV
  | q, .one (.d .bo x), .one (.d .bo y) => .one (.d .bo (bif q then x else y))
  | true, a, _ => a
  | false, _, b => b
theorem pickS_or (q : Bool) (a b : SV) : pickS q a b = (bif q then a else b) ∨ ∃ x y, a = .one (.d .bo x) ∧ b = .one (.d .bo y) ∧ pickS q a b = .one (.d .bo (bif q then x else y)) := by
  unfold pickS
  split
  · exact .inr ⟨_, _, rfl, rfl, rfl⟩
  · exact .inl rfl
  · exact .inl rfl
theorem pickS_eq {q : Bool} {a b : SV} : pickS q a b = (bif q then a else b) := by
  rcases pickS_or q a b with h | ⟨x, y, rfl, rfl, h⟩
  · exact h
  · rw [h]; cases q <;> rfl
/-- What an operation that only computes comes to, and what must hold. -/
def pureE [Glob] (P : Program) (nw : Bool) (σ : St) (o : Op) : Option (Prop × SV) :=
  match o with
  | .move x | .assign x => some (True, σ.ev x)
  | .pick c a b => match σ.ev c with
    | .one (.d .bo q) => some (True, pickS q (σ.ev a) (σ.ev b))
    | _ => none
  | .binOp op ty x y _ => evBin P nw op ty (σ.ev x) (σ.ev y)
  | .unOp op _ x => evUn nw op (σ.ev x)
  | .convert s d x => evConv P nw s d (σ.ev x)
  | .load ty x => (evLoad P σ.objs ty (σ.ev x)).map fun s => (True, s)
  | .fieldAddr ty x f => (evFAddr P σ.objs ty f (σ.ev x)).map fun s => (True, s)
  | .field ty x f => (evField P ty f (σ.ev x)).map fun s => (True, s)
  | .nilCheck x => (evNil σ.objs (σ.ev x)).map fun s => (True, s)
  | .indexAddr ty x y => evIxA P σ.objs ty (σ.ev x) (σ.ev y)
  | .index ty x y => evIx P ty (σ.ev x) (σ.ev y)
  | .slice ty x lo hi none => evSlice P σ.objs ty (bnd σ.ev lo) (bnd σ.ev hi) (σ.ev x)
  | .build ty ps => (evBuild P ty (partsC σ.ev ps.toList)).map fun s => (True, s)
  | .extract x i => (evExtract i (σ.ev x)).map fun s => (True, s)
  | .call c => match c.callee, c.args.toList, c.argTypes.toList with
    | .builtin .len, [x], [ty] => (evLen P σ.objs ty (σ.ev x)).map fun s => (True, s)
    | .builtin .min, [x, y], _ => (evMin (σ.ev x) (σ.ev y)).map fun s => (True, s)
    | .builtin .max, [x, y], _ => (evMax (σ.ev x) (σ.ev y)).map fun s => (True, s)
    | _, _, _ => none
  | _ => none
theorem PureOK.true [Glob] {o : Oper} {p : Prop} {s : SV} (h : PureOK P σ o True s) : PureOK P σ o p s := fun K w I g tm hi _ => h K w I g tm hi trivial
theorem pureE_ok [Glob] {nw : Bool} {o : Oper} {op : Op} {p : Prop} {s : SV} (ho : o.op = op) (h : pureE P nw σ op = some (p, s)) : PureOK P σ o p s := by
  have mv : ∀ {x : Operand}, (o.op = .move x ∨ o.op = .assign x) → PureOK P σ o p (σ.ev x) := by
    intro x hx K w I g tm hi _
    refine ⟨Act.eval ⟨tm, []⟩ x, ?_, hi.ev x rfl⟩
    rcases hx with hx | hx <;> simp [execOp, hx]
  have mp : ∀ {q : Option SV}, (q.map fun s => (True, s)) = some (p, s) → q = some s := by
    intro q hq
    cases q with
    | none => cases hq
    | some s' => simp at hq; rw [hq.2]
  unfold pureE at h
  split at h
  · cases h; exact mv (.inl ho)
  · cases h; exact mv (.inr ho)
  · rename_i c a b
    split at h
    · rename_i q hc
      cases h
      intro K w I g tm hi _
      have hb := hi.ev_bo hc
      have key : (execOp (Act.eval ⟨tm, []⟩) o).run P w = .ok (.value (bif q then Act.eval ⟨tm, []⟩ a else Act.eval ⟨tm, []⟩ b)) w := by
        cases q <;> simp [execOp, ho, hb, asBool]
      refine ⟨_, key, ?_⟩
      rw [pickS_eq]
      cases q with
      | true => exact hi.ev a rfl
      | false => exact hi.ev b rfl
    · cases h
  · exact evBin_ok ho h
  · exact evUn_ok ho h
  · exact evConv_ok ho h
  · exact (evLoad_ok ho (mp h)).true
  · exact (evFAddr_ok ho (mp h)).true
  · exact (evField_ok ho (mp h)).true
  · exact (evNil_ok ho (mp h)).true
  · exact evIxA_ok ho h
  · exact evIx_ok ho h
  · exact evSlice_ok ho h
  · exact (evBuild_ok ho (mp h)).true
  · exact (evExtract_ok ho (mp h)).true
  · rename_i c
    obtain ⟨callee, args, tys⟩ := c
    simp only at h
    split at h
    · rename_i ha ht
      refine (evLen_ok (o := o) ?_ (mp h)).true
      rw [ho]
      rw [← Array.toArray_toList (xs := args), ha, ← Array.toArray_toList (xs := tys), ht]
    · rename_i ha
      refine (evMin_ok (o := o) (tys := tys) ?_ (mp h)).true
      rw [ho]
      rw [← Array.toArray_toList (xs := args), ha]
    · rename_i ha
      refine (evMax_ok (o := o) (tys := tys) ?_ (mp h)).true
      rw [ho]
      rw [← Array.toArray_toList (xs := args), ha]
    · cases h
  · cases h
/-- A store into an element of an owned slice. -/
def evStE (P : Program) (ob : Nat → Option Ob) (ty : TypeId) (sx s : SV) : Option (Nat × Ob) :=
  match sx with
  | .one (.rf id (.pe i j)) => match ob id with
    | some (.rows e t dp xs) => s.flat.bind fun cs => (sizeB P ty).bind fun n => bif Nat.blt 0 n && Nat.beq n cs.length && (!dp || slFree t j n) then (setCs ob t (xs.getD i (dflt t)) j cs).map fun x' => (id, .rows e t dp (xs.set i x')) else none
    | _ => none
  | _ => none
theorem evStE_ok [Glob] {o : Oper} {ty : TypeId} {x y : Operand} {id : Nat} {q : Ob} {N : St → Prop} (ho : o.op = .store ty x y) (hd : o.dst = none) (h : evStE P σ.objs ty (σ.ev x) (σ.ev y) = some (id, q)) (hN : N (σ.setO id q)) : OpW P o N σ := by
  unfold evStE at h
  split at h
  · rename_i id' i j hx
    split at h
    · rename_i e t dp xs hq
      simp only [Option.bind_eq_some_iff] at h
      obtain ⟨cs, hf, n, hsz, h⟩ := h
      cases hb : (Nat.blt 0 n && Nat.beq n cs.length && (!dp || slFree t j n)) with
      | false => rw [hb] at h; cases h
      | true =>
        rw [hb] at h
        simp only [cond_true, Option.map_eq_some_iff, Prod.mk.injEq] at h
        obtain ⟨x', hx', rfl, rfl⟩ := h
        exact op_store_e ho hd hx hq hf hsz hb hx' hN
    · cases h
  · cases h
/-- What an operation tells anew. -/
structure Upd where
  us : List (Nat × SV)
  ub : List (Nat × Option Ob)
def St.up (σ : St) (u : Upd) : St := σ.over u.us u.ub
/-- One operation. -/
def stepU [Glob] (P : Program) (nw : Bool) (o : Oper) (σ : St) : Option (Prop × Upd) :=
  match o.op, o.dst with
  | .store ty x y, none => match σ.ev x with
    | .one (.rf _ (.pb _)) => (evStB P σ.objs ty (σ.ev x) (σ.ev y)).map fun r => (True, ⟨[], [(r.1, some (.cells r.2))]⟩)
    | _ => (evStE P σ.objs ty (σ.ev x) (σ.ev y)).map fun r => (True, ⟨[], [(r.1, some r.2)]⟩)
  | .box e x, some t => bif Nat.blt t σ.n then (evBox σ.objs t (σ.ev x)).map fun r => (True, ⟨[(t, .one (.rf r.1 (.pb 0)))], [(r.1, some (.cells r.2))]⟩) else none
  | .alloc e, some t => bif Nat.blt t σ.n then (evAlloc P σ.objs t e).map fun r => (True, ⟨[(t, .one (.rf r.1 (.pb 0)))], [(r.1, some (.cells r.2))]⟩) else none
  | op, some t => bif Nat.blt t σ.n then (pureE P nw σ op).map fun r => (r.1, ⟨[(t, r.2)], []⟩) else none
  | _, none => none
theorem up_put {t : Nat} {s : SV} : σ.put t s = σ.over [(t, s)] [] := rfl
theorem up_setO {t : Nat} {q : Ob} : σ.setO t q = σ.over [] [(t, some q)] := rfl
theorem stepU_ok [Glob] {nw : Bool} {o : Oper} {p : Prop} {u : Upd} {N : St → Prop} (h : stepU P nw o σ = some (p, u)) (hp : p) (hN : N (σ.up u)) : OpW P o N σ := by
  unfold stepU at h
  split at h
  · rename_i ty x y ho hd
    split at h
    · simp only [Option.map_eq_some_iff, Prod.mk.injEq] at h
      obtain ⟨⟨id, cs⟩, h, _, rfl⟩ := h
      exact op_store_b ho hd h hN
    · simp only [Option.map_eq_some_iff, Prod.mk.injEq] at h
      obtain ⟨⟨id, q⟩, h, _, rfl⟩ := h
      exact evStE_ok ho hd h hN
  · rename_i e x t ho hd
    cases ht : Nat.blt t σ.n with
    | false => rw [ht] at h; cases h
    | true =>
      rw [ht] at h
      simp only [cond_true, Option.map_eq_some_iff, Prod.mk.injEq] at h
      obtain ⟨⟨id, cs⟩, h, _, rfl⟩ := h
      exact op_box ho hd ht h hN
  · rename_i e t ho hd
    cases ht : Nat.blt t σ.n with
    | false => rw [ht] at h; cases h
    | true =>
      rw [ht] at h
      simp only [cond_true, Option.map_eq_some_iff, Prod.mk.injEq] at h
      obtain ⟨⟨id, cs⟩, h, _, rfl⟩ := h
      exact op_alloc ho hd ht h hN
  · rename_i t hd _ _
    cases ht : Nat.blt t σ.n with
    | false => rw [ht] at h; cases h
    | true =>
      rw [ht] at h
      simp only [cond_true, Option.map_eq_some_iff, Prod.mk.injEq] at h
      obtain ⟨⟨p', s⟩, h, rfl, rfl⟩ := h
      exact OpW_put hd ht (fun K w I g tm hi => pureE_ok rfl h K w I g tm hi hp) hN
  · cases h
/-! ### Written out -/
def forceNat : Nat → Option Nat
  | 0 => some 0
  | n + 1 => some (n + 1)
theorem forceNat_eq {n m : Nat} (h : forceNat n = some m) : m = n := by cases n <;> (cases h; rfl)
def forceR : Rf → Option Rf
  | .ar => some .ar
  | .sb a b => some (.sb a b)
  | .vw t x => some (.vw t x)
  | .pb c => match forceNat c with
    | some c' => some (.pb c')
    | none => none
  | .as wd n e => some (.as wd n e)
  | .pe i j => match forceNat j with
    | some j' => some (.pe i j')
    | none => none
  | .vp t x j => some (.vp t x j)
  | .ns i j => some (.ns i j)
theorem forceR_eq {r r' : Rf} (h : forceR r = some r') : r' = r := by
  unfold forceR at h
  split at h
  · cases h; rfl
  · cases h; rfl
  · cases h; rfl
  · split at h
    · rename_i h1; cases h; rw [forceNat_eq h1]
    · cases h
  · cases h; rfl
  · split at h
    · rename_i h1; cases h; rw [forceNat_eq h1]
    · cases h
  · cases h; rfl
  · cases h; rfl
def forceC : C → Option C
  | .d t x => some (.d t x)
  | .rf o r => match forceNat o, forceR r with
    | some o', some r' => some (.rf o' r')
    | _, _ => none
  | .pd t x j => some (.pd t x j)
  | .pa t xs => some (.pa t xs)
  | .fc fn caps => some (.fc fn caps)
  | .sem φ => some (.sem φ)
  | .nl => some .nl
  | .np => some .np
  | .ni => some .ni
  | .z => some .z
  | .val v => some (.val v)
  | .any => some .any
theorem forceC_eq {c c' : C} (h : forceC c = some c') : c' = c := by
  cases c with
  | rf o r =>
    simp only [forceC] at h
    split at h
    · rename_i h1 h2; cases h; rw [forceNat_eq h1, forceR_eq h2]
    · cases h
  | _ => cases h; rfl
def forceL : List C → Option (List C)
  | [] => some []
  | c :: r => match forceC c, forceL r with
    | some c', some r' => some (c' :: r')
    | _, _ => none
theorem forceL_eq : ∀ {cs cs' : List C}, forceL cs = some cs' → cs' = cs
  | [], _, h => by cases h; rfl
  | c :: r, cs', h => by
    unfold forceL at h
    split at h
    · rename_i c1 r1 h1 h2
      cases h
      rw [forceC_eq h1, forceL_eq h2]
    · cases h
def forceT : List (Bool × List C) → Option (List (Bool × List C))
  | [] => some []
  | (b, cs) :: r => match forceL cs, forceT r with
    | some cs', some r' => some ((b, cs') :: r')
    | _, _ => none
theorem forceT_eq : ∀ {cs cs' : List (Bool × List C)}, forceT cs = some cs' → cs' = cs
  | [], _, h => by cases h; rfl
  | (b, c) :: r, cs', h => by
    unfold forceT at h
    split at h
    · rename_i c1 r1 h1 h2
      cases h
      rw [forceL_eq h1, forceT_eq h2]
    · cases h
def forceS : SV → Option SV
  | .one c => match forceC c with
    | some c' => some (.one c')
    | none => none
  | .ag cs => match forceL cs with
    | some cs' => some (.ag cs')
    | none => none
  | .tu xs => match forceT xs with
    | some xs' => some (.tu xs')
    | none => none
  | .un => some .un
theorem forceS_eq {s s' : SV} (h : forceS s = some s') : s' = s := by
  unfold forceS at h
  split at h
  · split at h
    · rename_i h1; cases h; rw [forceC_eq h1]
    · cases h
  · split at h
    · rename_i h1; cases h; rw [forceL_eq h1]
    · cases h
  · split at h
    · rename_i h1; cases h; rw [forceT_eq h1]
    · cases h
  · cases h; rfl
def forceO : Option Ob → Option (Option Ob)
  | some (.cells cs) => match forceL cs with
    | some cs' => some (some (.cells cs'))
    | none => none
  | some (.rows e t dp xs) => some (some (.rows e t dp xs))
  | some (.fz t dp xs) => some (some (.fz t dp xs))
  | some .dead => some (some .dead)
  | none => some none
theorem forceO_eq {s s' : Option Ob} (h : forceO s = some s') : s' = s := by
  unfold forceO at h
  split at h
  · split at h
    · rename_i h1; cases h; rw [forceL_eq h1]
    · cases h
  · cases h; rfl
  · cases h; rfl
  · cases h; rfl
  · cases h; rfl
def forceUs : List (Nat × SV) → Option (List (Nat × SV))
  | [] => some []
  | (t, s) :: r => match forceNat t, forceS s, forceUs r with
    | some t', some s', some r' => some ((t', s') :: r')
    | _, _, _ => none
theorem forceUs_eq : ∀ {cs cs' : List (Nat × SV)}, forceUs cs = some cs' → cs' = cs
  | [], _, h => by cases h; rfl
  | (b, c) :: r, cs', h => by
    unfold forceUs at h
    split at h
    · rename_i h0 h1 h2
      cases h
      rw [forceNat_eq h0, forceS_eq h1, forceUs_eq h2]
    · cases h
def forceUb : List (Nat × Option Ob) → Option (List (Nat × Option Ob))
  | [] => some []
  | (t, s) :: r => match forceNat t, forceO s, forceUb r with
    | some t', some s', some r' => some ((t', s') :: r')
    | _, _, _ => none
theorem forceUb_eq : ∀ {cs cs' : List (Nat × Option Ob)}, forceUb cs = some cs' → cs' = cs
  | [], _, h => by cases h; rfl
  | (b, c) :: r, cs', h => by
    unfold forceUb at h
    split at h
    · rename_i h0 h1 h2
      cases h
      rw [forceNat_eq h0, forceO_eq h1, forceUb_eq h2]
    · cases h
def forceU (u : Upd) : Option Upd := match forceUs u.us, forceUb u.ub with
  | some a, some b => some ⟨a, b⟩
  | _, _ => none
theorem forceU_eq {u u' : Upd} (h : forceU u = some u') : u' = u := by
  unfold forceU at h
  split at h
  · rename_i h1 h2; cases h; rw [forceUs_eq h1, forceUb_eq h2]
  · cases h
def stepF [Glob] (P : Program) (nw : Bool) (o : Oper) (σ : St) : Option (Prop × Upd) := match stepU P nw o σ with
  | some (p, u) => match forceU u with
    | some u' => some (p, u')
    | none => none
  | none => none
theorem stepF_ok [Glob] {nw : Bool} {o : Oper} {p : Prop} {u : Upd} {N : St → Prop} (h : stepF P nw o σ = some (p, u)) (hp : p) (hN : N (σ.up u)) : OpW P o N σ := by
  unfold stepF at h
  split at h
  · rename_i h1
    split at h
    · rename_i h2
      cases h
      rw [forceU_eq h2] at hN
      exact stepU_ok h1 hp hN
    · cases h
  · cases h

/-- Does an operation run without a choice? -/
def simpO : Op → Bool
  | .binOp _ _ _ (.const (.slice none 0 0)) _ => false
  | .move _ | .assign _ | .pick .. | .binOp .. | .unOp .. | .convert .. | .load .. | .fieldAddr .. | .field .. | .nilCheck _ | .indexAddr .. | .index .. | .slice .. | .build .. | .extract .. | .store .. | .box .. | .alloc _ => true
  | .call c => match c.callee with
    | .builtin .len | .builtin .min | .builtin .max => true
    | _ => false
  | _ => false
/-- The slot that a guard looks at. -/
def gSlot (ops : List Oper) (j : Nat) : Option Nat := (ops[j]?).bind (·.dst)
/-- The operations at the head that have no guard and run without a choice. -/
def headE : List Oper → Nat
  | [] => 0
  | o :: l => match o.guard with
    | none => bif simpO o.op then headE l + 1 else 0
    | some _ => 0
/-- The operations at the head that have the guard j and run without a choice, or are passed over (b: what the guard is). -/
def headG (j : Nat) (b : Bool) : List Oper → Nat
  | [] => 0
  | o :: l => match o.guard with
    | some (j', pol) => bif Nat.beq j' j && (simpO o.op || xor pol b) then headG j b l + 1 else 0
    | none => 0
/-- What an operation comes to, its guard seen to. -/
def stepG [Glob] (P : Program) (nw : Bool) (ops : List Oper) (o : Oper) (σ : St) : Option (Prop × Upd) :=
  match o.guard with
  | none => stepF P nw o σ
  | some (j, pol) => match gSlot ops j with
    | some d => bif Nat.blt d σ.n then (match σ.slots d with
      | .one (.d .bo b) => match xor b pol with
        | false => stepF P nw o σ
        | true => match o.dst with
          | some e => bif Nat.blt e σ.n then some (True, ⟨[(e, .tu [])], []⟩) else none
          | none => some (True, ⟨[], []⟩)
      | .tu [] => match o.dst with
        | some e => bif Nat.blt e σ.n then some (True, ⟨[(e, .tu [])], []⟩) else none
        | none => some (True, ⟨[], []⟩)
      | _ => none) else none
    | none => none
/-- n operations; what must hold, what comes out. -/
def runE [Glob] (P : Program) (nw : Bool) (ops : List Oper) : Nat → List Oper → St → Option (Prop × (List Oper × St))
  | 0, l, σ => some (True, l, σ)
  | _ + 1, [], σ => some (True, [], σ)
  | n + 1, o :: l, σ => match stepG P nw ops o σ with
      | some (p, u) => match runE P nw ops n l (σ.up u) with
        | some (q, r) => some (p ∧ q, r)
        | none => none
      | none => none
theorem stepG_ok [Glob] {ops : List Oper} {l : List Oper} {Q : Exit → St → Prop} {nw : Bool} {o : Oper} {p : Prop} {u : Upd} (h : stepG P nw ops o σ = some (p, u)) (hp : p) (hN : WO P ops.toArray Q l (σ.up u)) : WO P ops.toArray Q (o :: l) σ := by
  unfold stepG at h
  split at h
  · rename_i hg
    exact WO_cons hg (stepF_ok h hp hN)
  · rename_i j pol hg
    split at h
    · rename_i d hd
      cases hb : Nat.blt d σ.n with
      | false => rw [hb] at h; cases h
      | true =>
        rw [hb] at h
        simp only [cond_true] at h
        have hj : (ops.toArray[j]?).bind (·.dst) = some d := by simpa [gSlot] using hd
        split at h
        · rename_i b hsl
          split at h
          · rename_i hx
            have hbp : b = pol := by cases b <;> cases pol <;> simp_all
            exact WO_gT hg hj hsl hb hbp (stepF_ok h hp hN)
          · rename_i hx
            have hbp : b = !pol := by cases b <;> cases pol <;> simp_all
            split at h
            · rename_i e he
              cases hbe : Nat.blt e σ.n with
              | false => rw [hbe] at h; cases h
              | true =>
                rw [hbe] at h
                simp only [cond_true, Option.some.injEq, Prod.mk.injEq] at h
                obtain ⟨_, rfl⟩ := h
                exact WO_gF hg hj hsl hb hbp he hbe hN
            · rename_i he
              simp only [Option.some.injEq, Prod.mk.injEq] at h
              obtain ⟨_, rfl⟩ := h
              intro K w I g tm hi
              have hy := yielded_of hi hj hsl (Nat.le_of_ble_eq_true hb)
              refine wpList_step fun N hN' => ?_
              rw [if_neg (by simp [Region.wanted, hg, hy, hbp])]
              refine hN' _ _ ?_
              rw [he]
              exact hN K w I g _ hi
        · rename_i hsl
          split at h
          · rename_i e he
            cases hbe : Nat.blt e σ.n with
            | false => rw [hbe] at h; cases h
            | true =>
              rw [hbe] at h
              simp only [cond_true, Option.some.injEq, Prod.mk.injEq] at h
              obtain ⟨_, rfl⟩ := h
              exact WO_gU hg hj hsl hb he hbe hN
          · rename_i he
            simp only [Option.some.injEq, Prod.mk.injEq] at h
            obtain ⟨_, rfl⟩ := h
            intro K w I g tm hi
            have hy := yielded_un hi hj hsl (Nat.le_of_ble_eq_true hb)
            refine wpList_step fun N hN' => ?_
            rw [if_neg (by simp [Region.wanted, hg, hy])]
            refine hN' _ _ ?_
            rw [he]
            exact hN K w I g _ hi
        · cases h
    · cases h
theorem WO_run [Glob] {ops : List Oper} {Q : Exit → St → Prop} {nw : Bool} : ∀ {n : Nat} {l l' : List Oper} {σ σ' : St} {p : Prop}, runE P nw ops n l σ = some (p, l', σ') → p → WO P ops.toArray Q l' σ' → WO P ops.toArray Q l σ
  | 0, l, l', σ, σ', p, h, _, hN => by cases h; exact hN
  | _ + 1, [], l', σ, σ', p, h, _, hN => by cases h; exact hN
  | n + 1, o :: l, l', σ, σ', p, h, hp, hN => by
    unfold runE at h
    split at h
    · rename_i p1 u1 h1
      split at h
      · rename_i p2 r h2
        cases h
        exact stepG_ok h1 hp.1 (WO_run h2 hp.2 hN)
      · cases h
    · cases h
end Go.LX

