/- Regions that draw their order: each operation by what it reads and writes; what does not meet may be swapped. -/
import Derived.Test.YtojaiockbpcilaaLxLiveB
import Derived.Orders
set_option linter.unusedVariables false
set_option linter.unusedSimpArgs false
namespace Go.LX

variable {P : Program}

def lookO : List (Nat × SV) → Nat → SV → SV
  | [], _, d => d
  | x :: r, t, d => bif Nat.beq t x.1 then x.2 else lookO r t d
def lookOB : List (Nat × Option Ob) → Nat → Option Ob → Option Ob
  | [], _, d => d
  | x :: r, t, d => bif Nat.beq t x.1 then x.2 else lookOB r t d
/-- A state with some slots and objs told anew. -/
def St.over (σ : St) (us : List (Nat × SV)) (ub : List (Nat × Option Ob)) : St := ⟨σ.n, fun t => lookO us t (σ.slots t), fun o => lookOB ub o (σ.objs o)⟩

/-- What one operation reads and writes; the places that nothing else may name then. -/
structure Eff where
  rs : List (Nat × SV)
  bs : List (Nat × Option Ob)
  us : List (Nat × SV)
  ub : List (Nat × Option Ob)

def Agr (σ : St) (e : Eff) : Prop := (∀ x ∈ e.rs, σ.slots x.1 = x.2) ∧ (∀ x ∈ e.bs, σ.objs x.1 = x.2)

theorem lookO_not {us : List (Nat × SV)} {t : Nat} {d : SV} (h : t ∉ us.map (·.1)) : lookO us t d = d := by
  induction us with
  | nil => rfl
  | cons x r ih =>
    simp only [List.map_cons, List.mem_cons, not_or] at h
    simp only [lookO, beq_ne h.1, cond_false]
    exact ih h.2
theorem lookO_mem {us : List (Nat × SV)} {t : Nat} {d d' : SV} (h : t ∈ us.map (·.1)) : lookO us t d = lookO us t d' := by
  induction us with
  | nil => simp at h
  | cons x r ih =>
    by_cases e : t = x.1
    · subst e; simp [lookO]
    · simp only [lookO, beq_ne e, cond_false]
      exact ih (by simpa [e] using h)
theorem lookOB_not {us : List (Nat × Option Ob)} {t : Nat} {d : Option Ob} (h : t ∉ us.map (·.1)) : lookOB us t d = d := by
  induction us with
  | nil => rfl
  | cons x r ih =>
    simp only [List.map_cons, List.mem_cons, not_or] at h
    simp only [lookOB, beq_ne h.1, cond_false]
    exact ih h.2
theorem lookOB_mem {us : List (Nat × Option Ob)} {t : Nat} {d d' : Option Ob} (h : t ∈ us.map (·.1)) : lookOB us t d = lookOB us t d' := by
  induction us with
  | nil => simp at h
  | cons x r ih =>
    by_cases e : t = x.1
    · subst e; simp [lookOB]
    · simp only [lookOB, beq_ne e, cond_false]
      exact ih (by simpa [e] using h)
theorem lookO_self {us : List (Nat × SV)} {t : Nat} {σ : St} (h : ∀ x ∈ us, σ.slots x.1 = x.2) : lookO us t (σ.slots t) = σ.slots t := by
  induction us with
  | nil => rfl
  | cons x r ih =>
    by_cases e : t = x.1
    · simp only [lookO]; rw [e, Nat.beq_refl, cond_true]; exact (h x (by simp)).symm
    · simp only [lookO, beq_ne e, cond_false]; exact ih fun y hy => h y (by simp [hy])
theorem lookOB_self {us : List (Nat × Option Ob)} {t : Nat} {σ : St} (h : ∀ x ∈ us, σ.objs x.1 = x.2) : lookOB us t (σ.objs t) = σ.objs t := by
  induction us with
  | nil => rfl
  | cons x r ih =>
    by_cases e : t = x.1
    · simp only [lookOB]; rw [e, Nat.beq_refl, cond_true]; exact (h x (by simp)).symm
    · simp only [lookOB, beq_ne e, cond_false]; exact ih fun y hy => h y (by simp [hy])
theorem over_self {σ : St} {e : Eff} (h : Agr σ e) : σ.over e.rs e.bs = σ := by
  unfold St.over
  cases σ with
  | mk n s b =>
    congr 1
    · funext t; exact lookO_self (σ := ⟨n, s, b⟩) h.1
    · funext t; exact lookOB_self (σ := ⟨n, s, b⟩) h.2

def memN (x : Nat) : List Nat → Bool
  | [] => false
  | y :: r => Nat.beq x y || memN x r
theorem memN_iff {x : Nat} {l : List Nat} : memN x l = true ↔ x ∈ l := by
  induction l with
  | nil => simp [memN]
  | cons y r ih => simp [memN, ih, Nat.beq_eq]
/-- One operation, run or passed over as its guard says. -/
def One [Glob] (P : Program) (ops : Array Oper) (o : Oper) (N : St → Prop) (σ : St) : Prop :=
  ∀ (K : Ctx) (w : World) (I : Nat → Prop) (g : Gh) (tm : Array Value), Inv K w I g σ tm →
    if Region.wanted o (yielded ops tm) then
      o.upon P ⟨tm, []⟩ (fun a w' => a.defers = [] ∧ ∃ σ' I' g', N σ' ∧ Inv K w' I' g' σ' a.tmps) (fun _ _ _ => False) ((execOp (Act.eval ⟨tm, []⟩) o).run P w)
    else ∃ σ' I' g', N σ' ∧ Inv K w I' g' σ' (Act.put ⟨tm, []⟩ o.dst undef).tmps
def Loc [Glob] (P : Program) (ops : Array Oper) (o : Oper) (e : Eff) (n : Nat) : Prop :=
  ∀ σ0 : St, σ0.n = n → Agr σ0 e → One P ops o (fun σ' => σ' = σ0.over e.us e.ub) σ0

structure It where
  i : Nat
  o : Oper
  e : Eff
def Chain [Glob] (P : Program) (ops : Array Oper) (n : Nat) : List It → St → St → Prop
  | [], σ, σ' => σ' = σ
  | x :: l, σ, σ' => Loc P ops x.o x.e n ∧ Agr σ x.e ∧ Chain P ops n l (σ.over x.e.us x.e.ub) σ'

def meet (a b : List Nat) : Bool := a.any fun x => memN x b
def Eff.wr (e : Eff) : List Nat := e.us.map (·.1)
def Eff.wb (e : Eff) : List Nat := e.ub.map (·.1)
def Eff.rd (e : Eff) : List Nat := e.rs.map (·.1)
def Eff.rb (e : Eff) : List Nat := e.bs.map (·.1)
/-- A footprint: what is read and written, by numbers. -/
structure Fp where
  rd : List Nat
  rb : List Nat
  wr : List Nat
  wb : List Nat
def Eff.fp (e : Eff) : Fp := ⟨e.rd, e.rb, e.wr, e.wb⟩
def conflF (a b : Fp) : Bool := meet a.wr b.rd || meet a.wr b.wr || meet a.rd b.wr || meet a.wb b.rb || meet a.wb b.wb || meet a.rb b.wb
def confl (a b : Eff) : Bool := conflF a.fp b.fp

theorem meet_false {a b : List Nat} (h : meet a b = false) : ∀ x ∈ a, x ∉ b := by
  intro x hx hb
  have : meet a b = true := List.any_eq_true.2 ⟨x, hx, memN_iff.2 hb⟩
  rw [h] at this; cases this

theorem Agr.over {σ : St} {e f : Eff} (h : Agr σ e) (h1 : ∀ x ∈ f.wr, x ∉ e.rd) (h2 : ∀ x ∈ f.wb, x ∉ e.rb) : Agr (σ.over f.us f.ub) e := by
  refine ⟨fun x hx => ?_, fun x hx => ?_⟩
  · show lookO f.us x.1 (σ.slots x.1) = x.2
    rw [lookO_not fun hm => h1 _ hm (List.mem_map.2 ⟨x, hx, rfl⟩)]
    exact h.1 x hx
  · show lookOB f.ub x.1 (σ.objs x.1) = x.2
    rw [lookOB_not fun hm => h2 _ hm (List.mem_map.2 ⟨x, hx, rfl⟩)]
    exact h.2 x hx
theorem Agr.of_over {σ : St} {e f : Eff} (h : Agr (σ.over f.us f.ub) e) (h1 : ∀ x ∈ f.wr, x ∉ e.rd) (h2 : ∀ x ∈ f.wb, x ∉ e.rb) : Agr σ e := by
  refine ⟨fun x hx => ?_, fun x hx => ?_⟩
  · have := h.1 x hx
    simp only [St.over] at this
    rwa [lookO_not fun hm => h1 _ hm (List.mem_map.2 ⟨x, hx, rfl⟩)] at this
  · have := h.2 x hx
    simp only [St.over] at this
    rwa [lookOB_not fun hm => h2 _ hm (List.mem_map.2 ⟨x, hx, rfl⟩)] at this
theorem over_comm {σ : St} {e f : Eff} (h1 : ∀ x ∈ e.wr, x ∉ f.wr) (h2 : ∀ x ∈ e.wb, x ∉ f.wb) : (σ.over e.us e.ub).over f.us f.ub = (σ.over f.us f.ub).over e.us e.ub := by
  unfold St.over
  congr 1
  · funext t
    simp only
    by_cases ht : t ∈ e.us.map (·.1)
    · rw [lookO_not (h1 t ht)]; exact lookO_mem ht
    · rw [lookO_not ht, lookO_not ht]
  · funext t
    simp only
    by_cases ht : t ∈ e.ub.map (·.1)
    · rw [lookOB_not (h2 t ht)]; exact lookOB_mem ht
    · rw [lookOB_not ht, lookOB_not ht]

theorem Chain.swap [Glob] {ops : Array Oper} {n : Nat} {x y : It} {l : List It} {σ σ' : St} (h : Chain P ops n (x :: y :: l) σ σ') (hc : confl x.e y.e = false) : Chain P ops n (y :: x :: l) σ σ' := by
  simp only [confl, conflF, Eff.fp, Bool.or_eq_false_iff] at hc
  obtain ⟨⟨⟨⟨⟨c1, c2⟩, c3⟩, c4⟩, c5⟩, c6⟩ := hc
  obtain ⟨l1, a1, l2, a2, hl⟩ := h
  have m1 := meet_false c1
  have m2 := meet_false c2
  have m3 := meet_false c3
  have m4 := meet_false c4
  have m5 := meet_false c5
  have m6 := meet_false c6
  refine ⟨l2, a2.of_over m1 m4, l1, a1.over (fun z hz hr => m3 z hr hz) (fun z hz hr => m6 z hr hz), ?_⟩
  rw [← over_comm m2 m5]
  exact hl
theorem Chain.front [Glob] {ops : Array Oper} {n : Nat} {x : It} {l2 : List It} : ∀ {l1 : List It} {σ σ' : St}, Chain P ops n (l1 ++ x :: l2) σ σ' → (∀ y ∈ l1, confl y.e x.e = false) → Chain P ops n (x :: (l1 ++ l2)) σ σ'
  | [], _, _, h, _ => h
  | y :: l1, σ, σ', h, hc => by
    have h' : Chain P ops n (y :: x :: (l1 ++ l2)) σ σ' := ⟨h.1, h.2.1, Chain.front h.2.2 fun z hz => hc z (by simp [hz])⟩
    exact h'.swap (hc y (by simp))

/-- k stands before j by the edges that bind in every order. -/
inductive Tr (ops : Array Oper) : Nat → Nat → Prop where
  | base {j : Nat} {o : Oper} {e : Edge} : ops[j]? = some o → e ∈ o.after → Region.binds .any e = true → Tr ops e.on j
  | step {j k : Nat} {o : Oper} {e : Edge} : ops[j]? = some o → e ∈ o.after → Region.binds .any e = true → Tr ops k e.on → Tr ops k j

theorem binds_any {md : Region.Mode} {e : Edge} (h : Region.binds .any e = true) : Region.binds md e = true := by
  unfold Region.binds at h ⊢
  split <;> simp_all

/-- What is done is closed under what stands before. -/
def Closed (ops : Array Oper) (listed : Array Bool) : Prop := ∀ j o, ops[j]? = some o → listed.getD j false = true → ∀ e ∈ o.after, Region.binds .any e = true → listed.getD e.on false = true
theorem Closed.tr {ops : Array Oper} {listed : Array Bool} (h : Closed ops listed) {k j : Nat} (ht : Tr ops k j) : listed.getD j false = true → listed.getD k false = true := by
  induction ht with
  | base h1 h2 h3 => exact fun hj => h _ _ h1 hj _ h2 h3
  | step h1 h2 h3 _ ih => exact fun hj => ih (h _ _ h1 hj _ h2 h3)

theorem Tr.pre {ops : Array Oper} {listed : Array Bool} {k j : Nat} {o : Oper} (h : Tr ops k j) (hc : Closed ops listed) (ho : ops[j]? = some o) (hp : ∀ e ∈ o.after, Region.binds .any e = true → listed.getD e.on false = true) : listed.getD k false = true := by
  induction h with
  | base h1 h2 h3 => rw [ho] at h1; cases h1; exact hp _ h2 h3
  | step h1 h2 h3 h4 _ => rw [ho] at h1; cases h1; exact hc.tr h4 (hp _ h2 h3)
theorem getD_flip {listed : Array Bool} {i : Nat} (hi : i < listed.size) : listed.getD i true = listed.getD i false := by simp [hi]
theorem getD_set_eq {listed : Array Bool} {i j : Nat} (h : (listed.setIfInBounds i true).getD j false = true) : j = i ∨ listed.getD j false = true := by
  by_cases e : j = i
  · exact .inl e
  · rw [getD_set_ne false (Ne.symm e)] at h; exact .inr h

theorem draw_main [Glob] {ops : Array Oper} {md : Region.Mode} {Q : Exit → St → Prop} {n : Nat} {σ' : St} (hQ : Q .normal σ') (rk : Nat → Nat) (hedge : ∀ (i : Nat) (o : Oper), ops[i]? = some o → ∀ e ∈ o.after, Region.binds md e = true → e.on < ops.size ∧ rk e.on < rk i) (K : Ctx) :
    ∀ (fuel : Nat) (listed : Array Bool) (rem : List It) (σ : St), rem.length = fuel → listed.size = ops.size → σ.n = n →
      (∀ i o, ops[i]? = some o → listed.getD i true = false → ∃ x ∈ rem, x.i = i) → (∀ x ∈ rem, ops[x.i]? = some x.o ∧ listed.getD x.i true = false) →
      rem.Pairwise (fun x y => x.i < y.i ∧ (confl x.e y.e = true → Tr ops x.i y.i)) → Closed ops listed → Chain P ops n rem σ σ' →
      ∀ (w : World) (I : Nat → Prop) (g : Gh) (tm : Array Value), Inv K w I g σ tm →
        wpAny P md ops (fun e a w' => a.defers = [] ∧ ∃ σ' I' g', Q e σ' ∧ Inv K w' I' g' σ' a.tmps) fuel listed ⟨tm, []⟩ w := by
  intro fuel
  induction fuel with
  | zero =>
    intro listed rem σ hlen hsz hn hall hrem hpw hcl hch w I g tm hi
    obtain rfl := List.eq_nil_of_length_eq_zero hlen
    obtain rfl : σ' = σ := hch
    refine ⟨?_, rfl, σ', I, g, hQ, hi⟩
    refine List.eq_nil_iff_forall_not_mem.2 fun i hi' => ?_
    obtain ⟨h0, o, ho, _⟩ := mem_ready.1 hi'
    obtain ⟨x, hx, _⟩ := hall i o ho h0
    cases hx
  | succ fuel ih =>
    intro listed rem σ hlen hsz hn hall hrem hpw hcl hch w I g tm hi
    have hlt : ∀ i o, ops[i]? = some o → i < listed.size := fun i o ho => by rw [hsz]; exact (Array.getElem?_eq_some_iff.1 ho).1
    refine ⟨fun hnil => ?_, fun i hir => ?_⟩
    · -- what stands least can always go
      exfalso
      have hmin : ∃ x ∈ rem, ∀ y ∈ rem, rk x.i ≤ rk y.i := by
        have key : ∀ (l : List It), l ≠ [] → ∃ x ∈ l, ∀ y ∈ l, rk x.i ≤ rk y.i := by
          intro l
          induction l with
          | nil => intro h; exact absurd rfl h
          | cons z l ihl =>
            intro _
            by_cases hl : l = []
            · subst hl; exact ⟨z, by simp, fun y hy => by simp at hy; subst hy; exact Nat.le_refl _⟩
            · obtain ⟨x, hx, hm⟩ := ihl hl
              by_cases hz : rk z.i ≤ rk x.i
              · refine ⟨z, by simp, fun y hy => ?_⟩
                rcases List.mem_cons.1 hy with rfl | hy
                · exact Nat.le_refl _
                · exact Nat.le_trans hz (hm y hy)
              · refine ⟨x, by simp [hx], fun y hy => ?_⟩
                rcases List.mem_cons.1 hy with rfl | hy
                · omega
                · exact hm y hy
        exact key rem (fun h => by rw [h] at hlen; cases hlen)
      obtain ⟨x, hxm, hmin⟩ := hmin
      obtain ⟨hxo, hxl⟩ := hrem x hxm
      have : x.i ∈ Region.ready md ops listed := by
        refine mem_ready.2 ⟨hxl, x.o, hxo, fun e he hb => ?_⟩
        obtain ⟨hsz', hrk⟩ := hedge _ _ hxo e he hb
        cases hq : listed.getD e.on false with
        | true => rfl
        | false =>
          obtain ⟨y, hy, hyi⟩ := hall e.on ops[e.on] (Array.getElem?_eq_getElem hsz') (by rw [getD_flip (by rw [hsz]; exact hsz')]; exact hq)
          have := hmin y hy
          rw [hyi] at this
          omega
      rw [hnil] at this
      cases this
    · obtain ⟨h0, o, ho, hpre⟩ := mem_ready.1 hir
      obtain ⟨x, hx, hxi⟩ := hall i o ho h0
      subst hxi
      obtain ⟨hxo, _⟩ := hrem x hx
      rw [ho] at hxo
      obtain ⟨l1, l2, rfl⟩ := List.append_of_mem hx
      have hno : ∀ y ∈ l1, confl y.e x.e = false := by
        intro y hy
        cases hq : confl y.e x.e with
        | false => rfl
        | true =>
          exfalso
          have htr := ((List.pairwise_append.1 hpw).2.2 y hy x (by simp)).2 hq
          have hyl := (hrem y (by simp [hy])).2
          have hyo := (hrem y (by simp [hy])).1
          rw [getD_flip (hlt _ _ hyo)] at hyl
          have : listed.getD y.i false = true := htr.pre hcl ho fun e he hb => hpre e he (binds_any hb)
          rw [hyl] at this
          cases this
      obtain ⟨hloc, hagr, hch'⟩ := hch.front hno
      have hone := hloc σ hn hagr K w I g tm hi
      have hox : x.o = o := (Option.some.inj hxo).symm
      rw [hox] at hone
      -- what stands for the rest
      have next : ∀ (w : World) (I : Nat → Prop) (g : Gh) (tm : Array Value), Inv K w I g (σ.over x.e.us x.e.ub) tm →
          wpAny P md ops (fun e a w' => a.defers = [] ∧ ∃ σ' I' g', Q e σ' ∧ Inv K w' I' g' σ' a.tmps) fuel (listed.setIfInBounds x.i true) ⟨tm, []⟩ w := by
        refine ih _ (l1 ++ l2) _ ?_ (by simpa using hsz) hn ?_ ?_ ?_ ?_ hch'
        · simp at hlen ⊢; omega
        · intro j oj hj hl
          by_cases e : j = x.i
          · subst e
            have := hlt _ _ hj
            rw [getD_flip (by simpa using this)] at hl
            simp [this] at hl
          · rw [getD_set_ne true (Ne.symm e)] at hl
            obtain ⟨y, hy, hyi⟩ := hall j oj hj hl
            refine ⟨y, ?_, hyi⟩
            simp only [List.mem_append, List.mem_cons] at hy ⊢
            rcases hy with hy | rfl | hy
            · exact .inl hy
            · exact absurd hyi.symm e
            · exact .inr hy
        · intro y hy
          have hne : y.i ≠ x.i := by
            rcases List.mem_append.1 hy with hy | hy
            · exact Nat.ne_of_lt ((List.pairwise_append.1 hpw).2.2 y hy x (by simp)).1
            · exact Nat.ne_of_gt ((List.pairwise_cons.1 (List.pairwise_append.1 hpw).2.1).1 y hy).1
          have hy' : y ∈ l1 ++ x :: l2 := by
            simp only [List.mem_append, List.mem_cons] at hy ⊢
            exact hy.imp id .inr
          rw [getD_set_ne true (Ne.symm hne)]
          exact hrem y hy'
        · exact hpw.sublist (List.Sublist.append (List.Sublist.refl _) (List.sublist_cons_self _ _))
        · intro j oj hj hl e he hb
          rcases getD_set_eq hl with rfl | hl
          · rw [ho] at hj; cases hj
            exact getD_set_true (hpre e he (binds_any hb))
          · exact getD_set_true (hcl j oj hj hl e he hb)
      unfold wpOp
      simp only [ho]
      split
      · rename_i hw
        rw [if_pos hw] at hone
        refine .inl ?_
        refine upon_mono ?_ (fun e a w' h => h.elim) hone
        rintro ⟨tm', d'⟩ w' ⟨hd, σ1, I', g', rfl, r⟩
        obtain rfl : d' = [] := hd
        exact next w' I' g' tm' r
      · rename_i hw
        rw [if_neg hw] at hone
        obtain ⟨σ1, I', g', rfl, r⟩ := hone
        have e : Act.put ⟨tm, []⟩ o.dst undef = ⟨(Act.put ⟨tm, []⟩ o.dst undef).tmps, []⟩ := by cases o.dst <;> rfl
        rw [e]
        exact next w I' g' _ r

end Go.LX
