/- Regions that draw their order. -/
import Derived.Test.YtojaiockbpcilaaLxStep
set_option linter.unusedVariables false
set_option linter.unusedSimpArgs false
namespace Go.LX

variable {P : Program} {σ : St}

/-! ### The walk -/
/-- Does i stand before j? (Looked for along the edges, f steps far.) -/
def reach (ops : List Oper) : Nat → Nat → Nat → Bool
  | 0, _, _ => false
  | f + 1, i, j => match ops[j]? with
    | some o => o.after.toList.any fun e => Region.binds .any e && (Nat.beq e.on i || (Nat.blt i e.on && reach ops f i e.on))
    | none => false
theorem reach_tr {ops : List Oper} : ∀ {f i j : Nat}, reach ops f i j = true → Tr ops.toArray i j := by
  intro f
  induction f with
  | zero => intro i j h; cases h
  | succ f ih =>
    intro i j h
    unfold reach at h
    cases ho : ops[j]? with
    | none => simp [ho] at h
    | some o =>
      simp only [ho] at h
      obtain ⟨e, he, h⟩ := List.any_eq_true.1 h
      obtain ⟨h1, h2⟩ := Bool.and_eq_true_iff.1 h
      have ho' : ops.toArray[j]? = some o := by simpa using ho
      have he' : e ∈ o.after := by simpa using he
      rcases Bool.or_eq_true_iff.1 h2 with h2 | h2
      · rw [← Nat.eq_of_beq_eq_true h2]
        exact .base ho' he' h1
      · exact .step ho' he' h1 (ih (Bool.and_eq_true_iff.1 h2).2)
def chkAll (ops : List Oper) (j : Nat) (e : Fp) : List (Nat × Fp) → Bool
  | [] => true
  | x :: r => (!conflF x.2 e || reach ops ops.length x.1 j) && chkAll ops j e r
/-- Each meets the earlier ones only along edges. -/
def chkF (ops : List Oper) : Nat → List (Nat × Fp) → List Fp → Bool
  | _, _, [] => true
  | j, prev, e :: es => chkAll ops j e prev && chkF ops (j + 1) ((j, e) :: prev) es
/-- Numbers for the operations: what binds stands lower. -/
def relax (md : Region.Mode) (rk : List Nat) : List Oper → List Nat
  | [] => []
  | o :: l => o.after.toList.foldl (fun m e => bif Region.binds md e then max m (rk.getD e.on 0 + 1) else m) 0 :: relax md rk l
def relaxN (md : Region.Mode) (ops : List Oper) : Nat → List Nat → List Nat
  | 0, rk => rk
  | n + 1, rk => relaxN md ops n (relax md rk ops)
def rkB (md : Region.Mode) (len : Nat) (rk : List Nat) : Nat → List Oper → Bool
  | _, [] => true
  | i, o :: l => (o.after.toList.all fun e => !Region.binds md e || (Nat.blt e.on len && Nat.blt (rk.getD e.on 0) (rk.getD i 0))) && rkB md len rk (i + 1) l
def edgeGo (ops : List Oper) : Bool := rkB .any ops.length (List.range ops.length) 0 ops && (rkB .text ops.length (List.range ops.length) 0 ops && rkB .gc ops.length (relaxN .gc ops ops.length []) 0 ops)
theorem rkB_spec {md : Region.Mode} {len : Nat} {rk : List Nat} : ∀ {l : List Oper} {i : Nat}, rkB md len rk i l = true → ∀ (j : Nat) (o : Oper), l[j]? = some o → ∀ e ∈ o.after, Region.binds md e = true → e.on < len ∧ rk.getD e.on 0 < rk.getD (i + j) 0
  | [], _, _, j, o, h, _, _, _ => by simp at h
  | o :: l, i, h, j, o', hj, e, he, hb => by
    obtain ⟨h1, h2⟩ := Bool.and_eq_true_iff.1 h
    cases j with
    | zero =>
      simp at hj
      subst hj
      have := List.all_eq_true.1 h1 e (by simpa using he)
      rw [hb] at this
      simp only [Bool.not_true, Bool.false_or, Bool.and_eq_true] at this
      exact ⟨Nat.le_of_ble_eq_true this.1, Nat.le_of_ble_eq_true this.2⟩
    | succ j =>
      have := rkB_spec h2 j o' (by simpa using hj) e he hb
      rwa [show i + 1 + j = i + (j + 1) by omega] at this
theorem edge_spec {ops : List Oper} (h : edgeGo ops = true) (md : Region.Mode) : ∃ rk : Nat → Nat, ∀ (i : Nat) (o : Oper), ops.toArray[i]? = some o → ∀ e ∈ o.after, Region.binds md e = true → e.on < ops.toArray.size ∧ rk e.on < rk i := by
  obtain ⟨h1, h⟩ := Bool.and_eq_true_iff.1 h
  obtain ⟨h2, h3⟩ := Bool.and_eq_true_iff.1 h
  have go : ∀ {rk : List Nat}, rkB md ops.length rk 0 ops = true → ∃ rk : Nat → Nat, ∀ (i : Nat) (o : Oper), ops.toArray[i]? = some o → ∀ e ∈ o.after, Region.binds md e = true → e.on < ops.toArray.size ∧ rk e.on < rk i := by
    intro rk h
    refine ⟨fun i => rk.getD i 0, fun i o ho e he hb => ?_⟩
    have := rkB_spec h i o (by simpa using ho) e he hb
    rw [Nat.zero_add] at this
    simpa using this
  cases md with
  | any => exact go h1
  | text => exact go h2
  | gc => exact go h3
theorem chkAll_spec {ops : List Oper} {j : Nat} {e : Fp} : ∀ {r : List (Nat × Fp)}, chkAll ops j e r = true → ∀ x ∈ r, conflF x.2 e = true → Tr ops.toArray x.1 j
  | [], _, x, hx, _ => by simp at hx
  | y :: r, h, x, hx, hc => by
    obtain ⟨h1, h2⟩ := Bool.and_eq_true_iff.1 h
    rcases List.mem_cons.1 hx with rfl | hx
    · rw [hc] at h1
      simp at h1
      exact reach_tr h1
    · exact chkAll_spec h2 x hx hc
theorem chkF_spec {ops : List Oper} : ∀ {es : List Fp} {j : Nat} {prev : List (Nat × Fp)}, chkF ops j prev es = true → ∀ (b : Nat) (e : Fp), es[b]? = some e →
    (∀ x ∈ prev, conflF x.2 e = true → Tr ops.toArray x.1 (j + b)) ∧ ∀ (a : Nat) (f : Fp), es[a]? = some f → a < b → conflF f e = true → Tr ops.toArray (j + a) (j + b)
  | [], _, _, _, b, e, hb => by simp at hb
  | e0 :: es, j, prev, h, b, e, hb => by
    obtain ⟨h1, h2⟩ := Bool.and_eq_true_iff.1 h
    cases b with
    | zero =>
      simp at hb
      subst hb
      exact ⟨fun x hx hc => chkAll_spec h1 x hx hc, fun a f _ hlt => absurd hlt (by omega)⟩
    | succ b =>
      obtain ⟨r1, r2⟩ := chkF_spec h2 b e (by simpa using hb)
      refine ⟨fun x hx hc => ?_, fun a f ha hlt hc => ?_⟩
      · have := r1 x (by simp [hx]) hc
        rwa [show j + 1 + b = j + (b + 1) by omega] at this
      · cases a with
        | zero =>
          simp at ha
          subst ha
          have := r1 (j, e0) (by simp) hc
          rwa [show j + 1 + b = j + (b + 1) by omega] at this
        | succ a =>
          have := r2 a f (by simpa using ha) (by omega) hc
          rwa [show j + 1 + b = j + (b + 1) by omega, show j + 1 + a = j + (a + 1) by omega] at this

def zipIt : Nat → List Oper → List Eff → List It
  | i, o :: l, e :: es => ⟨i, o, e⟩ :: zipIt (i + 1) l es
  | _, _, _ => []
def ChainE [Glob] (P : Program) (ops : Array Oper) (n : Nat) : List Oper → List Eff → St → St → Prop
  | [], [], σ, σ' => σ' = σ
  | o :: l, e :: es, σ, σ' => Loc P ops o e n ∧ Agr σ e ∧ ChainE P ops n l es (σ.over e.us e.ub) σ'
  | _, _, _, _ => False
/-- What is left of a region, from the state that the text's order reaches. -/
def RW [Glob] (P : Program) (ops : List Oper) (Q : Exit → St → Prop) (acc : List Fp) (l : List Oper) (σ : St) : Prop :=
  ∃ es σ', ChainE P ops.toArray σ.n l es σ σ' ∧ Q .normal σ' ∧ chkF ops 0 [] (acc.reverse ++ es.map Eff.fp) = true

theorem ChainE.zip [Glob] {ops : Array Oper} {n : Nat} : ∀ {l : List Oper} {es : List Eff} {i : Nat} {σ σ' : St}, ChainE P ops n l es σ σ' → Chain P ops n (zipIt i l es) σ σ' ∧ l.length = es.length
  | [], [], _, _, _, h => ⟨h, rfl⟩
  | o :: l, e :: es, i, _, _, h => ⟨⟨h.1, h.2.1, (ChainE.zip h.2.2).1⟩, by simp [(ChainE.zip (i := 0) h.2.2).2]⟩
  | [], _ :: _, _, _, _, h => h.elim
  | _ :: _, [], _, _, _, h => h.elim
theorem zip_get : ∀ {l : List Oper} {es : List Eff} {i k : Nat} {x : It}, (zipIt i l es)[k]? = some x → x.i = i + k ∧ l[k]? = some x.o ∧ es[k]? = some x.e
  | [], _, _, _, _, h => by simp [zipIt] at h
  | _ :: _, [], _, _, _, h => by simp [zipIt] at h
  | o :: l, e :: es, i, 0, x, h => by simp [zipIt] at h; subst h; simp
  | o :: l, e :: es, i, k + 1, x, h => by
    obtain ⟨h1, h2, h3⟩ := zip_get (l := l) (es := es) (i := i + 1) (k := k) (by simpa [zipIt] using h)
    exact ⟨by omega, by simpa using h2, by simpa using h3⟩
theorem zip_len : ∀ {l : List Oper} {es : List Eff} {i : Nat}, l.length = es.length → (zipIt i l es).length = l.length
  | [], [], _, _ => rfl
  | o :: l, e :: es, i, h => by simp [zipIt, zip_len (l := l) (es := es) (i := i + 1) (by simpa using h)]
  | [], _ :: _, _, h => by simp at h
  | _ :: _, [], _, h => by simp at h

theorem W_draw [Glob] {ops : List Oper} {Q : Exit → St → Prop} (h : RW P ops Q [] ops σ) (hedge : edgeGo ops = true) (id : Nat) : W P (.region id ops.toArray true) Q σ := by
  intro K w I g tm hi
  obtain ⟨es, σ', hch, hq, hchk⟩ := h
  obtain ⟨hz, hl⟩ := hch.zip (i := 0)
  refine wp_region_draw fun t => ?_
  have hsch : ∃ md t', Region.schedule (P.follows .mixedOrders) ops.toArray t = Region.linearise.go md ops.toArray ops.toArray.size t' (Array.replicate ops.toArray.size false) [] := by
    unfold Region.schedule Region.linearise
    split
    · exact ⟨_, _, rfl⟩
    · exact ⟨_, _, rfl⟩
  obtain ⟨md, t', hsch⟩ := hsch
  rw [hsch]
  obtain ⟨rk, hrk⟩ := edge_spec hedge md
  refine wpAny_sound _ _ _ _ _ ?_
  have hi' : Inv K { w with drawn := w.drawn + 1 } I g σ tm := hi.grow ⟨rfl, rfl, rfl, Nat.le_refl _, fun _ _ => rfl⟩
  refine draw_main (n := σ.n) hq rk hrk K _ _ (zipIt 0 ops es) σ (by rw [zip_len hl]; simp) (by simp) rfl ?_ ?_ ?_ ?_ hz _ I g tm hi'
  · intro i o ho _
    have hlt : i < (zipIt 0 ops es).length := by
      rw [zip_len hl]
      have := (Array.getElem?_eq_some_iff.1 ho).1
      simpa using this
    refine ⟨(zipIt 0 ops es)[i], List.getElem_mem hlt, ?_⟩
    have := (zip_get (List.getElem?_eq_getElem hlt)).1
    omega
  · intro x hx
    obtain ⟨k, hk⟩ := List.mem_iff_getElem?.1 hx
    obtain ⟨h1, h2, h3⟩ := zip_get hk
    have hlt := (List.getElem?_eq_some_iff.1 h2).1
    rw [Nat.zero_add] at h1
    refine ⟨by rw [h1]; simpa using h2, ?_⟩
    rw [h1]
    simp [hlt]
  · rw [List.pairwise_iff_getElem]
    intro a b ha hb hab
    obtain ⟨a1, a2, a3⟩ := zip_get (List.getElem?_eq_getElem ha)
    obtain ⟨b1, b2, b3⟩ := zip_get (List.getElem?_eq_getElem hb)
    refine ⟨by omega, fun hc => ?_⟩
    have := (chkF_spec (by simpa using hchk) b _ (show (es.map Eff.fp)[b]? = some (zipIt 0 ops es)[b].e.fp by simp [b3])).2 a _ (show (es.map Eff.fp)[a]? = some (zipIt 0 ops es)[a].e.fp by simp [a3]) hab hc
    rw [a1, b1]
    simpa using this
  · intro j o ho hj
    have hlt := (Array.getElem?_eq_some_iff.1 ho).1
    simp at hlt
    simp [hlt] at hj

/-! ### Single operations in such a region -/
def opTs : List Operand → List Nat
  | [] => []
  | .tmp t :: r => t :: opTs r
  | _ :: r => opTs r
def opdsOf : Op → List Operand
  | .move x | .assign x | .box _ x | .load _ x | .nilCheck x | .unOp _ _ x | .convert _ _ x | .makeInterface _ x | .fieldAddr _ x _ | .field _ x _ | .extract x _ => [x]
  | .pick c a b => [c, a, b]
  | .build _ ps | .buildSlice _ _ ps => ps.toList.map (·.2)
  | .store _ x y | .binOp _ _ x y _ | .indexAddr _ x y | .index _ x y | .makeSlice _ x y => [x, y]
  | .makeFunc _ a b => a.toList ++ b.toList
  | .slice _ x lo hi mx => x :: (lo.toList ++ hi.toList ++ mx.toList)
  | .call c => (match c.callee with | .value f => [f] | .invoke r _ => [r] | .builtin _ => []) ++ c.args.toList
  | _ => []
def guardT (ops : List Oper) (o : Oper) : List Nat :=
  match o.guard with
  | some (j, _) => (gSlot ops j).toList
  | none => []
def cRefs : C → List Nat
  | .rf o _ => [o]
  | .fc _ caps => caps
  | _ => []
def obRefs : Option Ob → List Nat
  | some (.cells cs) => cs.flatMap cRefs
  | _ => []
/-- The objects that an operation looks at: those that its operands name; for a call, those that these name too; its own new ones. -/
def objT [Glob] (o : Oper) (σ : St) : List Nat :=
  match o.op with
  | .move _ | .assign _ | .pick .. | .build .. | .extract .. | .field .. => []
  | .load _ x => (σ.ev x).cells.flatMap cRefs
  | .store _ x _ => (σ.ev x).cells.flatMap cRefs
  | .box .. | .alloc _ => match o.dst with
    | some t => (newO σ.objs t).toList
    | none => []
  | .call _ => let r := (opdsOf o.op).flatMap fun x => (σ.ev x).cells.flatMap cRefs
    r ++ (r.flatMap fun b => obRefs (σ.objs b)) ++ (match o.dst with
    | some t => (List.range 8).map fun k => 1000 * (t + 1) + k
    | none => [])
  | op => ((opdsOf op).flatMap fun x => (σ.ev x).cells.flatMap cRefs) ++ (match o.dst with
    | some t => [1000 * (t + 1)]
    | none => [])
def rdS (ops : List Oper) (o : Oper) (σ : St) : List (Nat × SV) := (guardT ops o ++ (o.dst.toList ++ opTs (opdsOf o.op))).map fun t => (t, σ.slots t)
def rdB [Glob] (o : Oper) (σ : St) : List (Nat × Option Ob) := (objT o σ).map fun b => (b, σ.objs b)

theorem agr_of {us : List Nat} {bs : List Nat} {e : Eff} (h1 : e.rs = us.map fun t => (t, σ.slots t)) (h2 : e.bs = bs.map fun b => (b, σ.objs b)) : Agr σ e := by
  refine ⟨fun x hx => ?_, fun x hx => ?_⟩
  · rw [h1] at hx; obtain ⟨t, _, rfl⟩ := List.mem_map.1 hx; rfl
  · rw [h2] at hx; obtain ⟨t, _, rfl⟩ := List.mem_map.1 hx; rfl

variable {ops : List Oper} {Q : Exit → St → Prop} {acc : List Fp} {l : List Oper} {o : Oper}

theorem RW_nil [Glob] (hq : Q .normal σ) (h1 : chkF ops 0 [] acc.reverse = true) : RW P ops Q acc [] σ := ⟨[], σ, rfl, hq, by simpa using h1⟩
def forceN : List Nat → Option (List Nat)
  | [] => some []
  | 0 :: r => match forceN r with
    | some r' => some (0 :: r')
    | none => none
  | (n + 1) :: r => match forceN r with
    | some r' => some ((n + 1) :: r')
    | none => none
theorem forceN_eq : ∀ {l l' : List Nat}, forceN l = some l' → l' = l
  | [], _, h => by cases h; rfl
  | 0 :: r, l', h => by
    unfold forceN at h
    split at h
    · rename_i h1; cases h; rw [forceN_eq h1]
    · cases h
  | (n + 1) :: r, l', h => by
    unfold forceN at h
    split at h
    · rename_i h1; cases h; rw [forceN_eq h1]
    · cases h
def forceFp (f : Fp) : Option Fp := match forceN f.rd, forceN f.rb, forceN f.wr, forceN f.wb with
  | some a, some b, some c, some d => some ⟨a, b, c, d⟩
  | _, _, _, _ => none
theorem forceFp_eq {f f' : Fp} (h : forceFp f = some f') : f' = f := by
  unfold forceFp at h
  split at h
  · rename_i h1 h2 h3 h4; cases h; rw [forceN_eq h1, forceN_eq h2, forceN_eq h3, forceN_eq h4]
  · cases h
theorem RW_cons [Glob] {e : Eff} {fp : Fp} (hl : Loc P ops.toArray o e σ.n) (ha : Agr σ e) (hfp : forceFp e.fp = some fp) (hN : RW P ops Q (fp :: acc) l (σ.over e.us e.ub)) : RW P ops Q acc (o :: l) σ := by
  obtain ⟨es, σ', h1, h2, h3⟩ := hN
  obtain rfl := forceFp_eq hfp
  exact ⟨e :: es, σ', ⟨hl, ha, h1⟩, h2, by simpa using h3⟩

/-- The state in which an operation is shown: what it reads stands, all else is open. -/
def St.loc (σ : St) (rs : List (Nat × SV)) (bs : List (Nat × Option Ob)) (s0 : Nat → SV) (b0 : Nat → Option Ob) : St := (St.mk σ.n s0 b0).over rs bs

/-- An operation, its guard seen to, from σ on. -/
theorem stepG_one [Glob] {nw : Bool} {p : Prop} {u : Upd} (h : stepG P nw ops o σ = some (p, u)) (hp : p) : One P ops.toArray o (fun σ' => σ' = σ.up u) σ := by
  intro K w I g tm hi
  unfold stepG at h
  split at h
  · rename_i hg
    rw [if_pos (by simp [Region.wanted, hg])]
    exact stepF_ok (N := fun σ' => σ' = σ.up u) h hp rfl K w I g tm hi
  · rename_i j pol hg
    split at h
    · rename_i d hd
      cases hb : Nat.blt d σ.n with
      | false => rw [hb] at h; cases h
      | true =>
        rw [hb] at h
        simp only [cond_true] at h
        have hj : (ops.toArray[j]?).bind (·.dst) = some d := by simpa [gSlot] using hd
        split at h
        · rename_i b hsl
          have hy := yielded_of hi hj hsl (Nat.le_of_ble_eq_true hb)
          split at h
          · rename_i hx
            have hbp : b = pol := by cases b <;> cases pol <;> simp_all
            rw [if_pos (by simp [Region.wanted, hg, hy, hbp])]
            exact stepF_ok (N := fun σ' => σ' = σ.up u) h hp rfl K w I g tm hi
          · rename_i hx
            have hbp : b = !pol := by cases b <;> cases pol <;> simp_all
            rw [if_neg (by simp [Region.wanted, hg, hy, hbp])]
            split at h
            · rename_i e he
              cases hbe : Nat.blt e σ.n with
              | false => rw [hbe] at h; cases h
              | true =>
                rw [hbe] at h
                simp only [cond_true, Option.some.injEq, Prod.mk.injEq] at h
                obtain ⟨_, rfl⟩ := h
                refine ⟨_, I, g, rfl, ?_⟩
                rw [he]
                exact hi.put (s := .tu []) (Nat.le_of_ble_eq_true hbe) ⟨[], rfl, trivial⟩ fun i c hc => by simp [SV.cells] at hc
            · rename_i he
              simp only [Option.some.injEq, Prod.mk.injEq] at h
              obtain ⟨_, rfl⟩ := h
              refine ⟨_, I, g, rfl, ?_⟩
              rw [he]
              exact hi
        · rename_i hsl
          have hy := yielded_un hi hj hsl (Nat.le_of_ble_eq_true hb)
          rw [if_neg (by simp [Region.wanted, hg, hy])]
          split at h
          · rename_i e he
            cases hbe : Nat.blt e σ.n with
            | false => rw [hbe] at h; cases h
            | true =>
              rw [hbe] at h
              simp only [cond_true, Option.some.injEq, Prod.mk.injEq] at h
              obtain ⟨_, rfl⟩ := h
              refine ⟨_, I, g, rfl, ?_⟩
              rw [he]
              exact hi.put (s := .tu []) (Nat.le_of_ble_eq_true hbe) ⟨[], rfl, trivial⟩ fun i c hc => by simp [SV.cells] at hc
          · rename_i he
            simp only [Option.some.injEq, Prod.mk.injEq] at h
            obtain ⟨_, rfl⟩ := h
            refine ⟨_, I, g, rfl, ?_⟩
            rw [he]
            exact hi
        · cases h
    · cases h
theorem Loc_of [Glob] {e : Eff} (h : ∀ s0 b0, One P ops.toArray o (fun σ' => σ' = (σ.loc e.rs e.bs s0 b0).over e.us e.ub) (σ.loc e.rs e.bs s0 b0)) : Loc P ops.toArray o e σ.n := by
  intro σ0 hn ha
  have e0 : σ.loc e.rs e.bs σ0.slots σ0.objs = σ0 := by
    unfold St.loc
    rw [← hn]
    exact over_self ha
  have := h σ0.slots σ0.objs
  rw [e0] at this
  exact this
def effE [Glob] (ops : List Oper) (o : Oper) (σ : St) (u : Upd) : Eff := ⟨rdS ops o σ, rdB o σ, u.us, u.ub⟩
/-- n operations in a region that draws its order: what must hold, what each does; shown where what they do not read is open. -/
def drawE [Glob] (P : Program) (nw : Bool) (ops : List Oper) (s0 : Nat → SV) (b0 : Nat → Option Ob) : Nat → List Oper → St → Option (List (Prop × Upd))
  | 0, _, _ => some []
  | _ + 1, [], _ => some []
  | n + 1, o :: l, σ => match stepG P nw ops o (σ.loc (rdS ops o σ) (rdB o σ) s0 b0) with
    | some (p, u) => match drawE P nw ops s0 b0 n l (σ.up u) with
      | some r => some ((p, u) :: r)
      | none => none
    | none => none
/-- What the operations come to: what must hold, what each reads and writes, what is left, the state. -/
def finE [Glob] (ops : List Oper) : Nat → List Oper → St → List Fp → List (Prop × Upd) → Option (Prop × (List Fp × List Oper × St))
  | 0, l, σ, acc, [] => some (True, acc, l, σ)
  | _ + 1, [], σ, acc, [] => some (True, acc, [], σ)
  | n + 1, o :: l, σ, acc, (p, u) :: r => match forceFp (effE ops o σ u).fp with
    | some fp => match finE ops n l (σ.up u) (fp :: acc) r with
      | some (q, x) => some (p ∧ q, x)
      | none => none
    | none => none
  | _, _, _, _, _ => none
theorem RW_run [Glob] {nw : Bool} : ∀ {n : Nat} {l l' : List Oper} {σ σ' : St} {acc acc' : List Fp} {L : List (Prop × Upd)} {p : Prop}, (∀ s0 b0, drawE P nw ops s0 b0 n l σ = some L) → finE ops n l σ acc L = some (p, acc', l', σ') → p →
    RW P ops Q acc' l' σ' → RW P ops Q acc l σ
  | 0, l, l', σ, σ', acc, acc', L, p, _, hf, _, hN => by
    cases L with
    | nil => cases hf; exact hN
    | cons => cases hf
  | _ + 1, [], l', σ, σ', acc, acc', L, p, _, hf, _, hN => by
    cases L with
    | nil => cases hf; exact hN
    | cons => cases hf
  | n + 1, o :: l, l', σ, σ', acc, acc', L, p, h, hf, hp, hN => by
    cases L with
    | nil => cases hf
    | cons x r =>
      obtain ⟨p1, u⟩ := x
      have hs : ∀ s0 b0, stepG P nw ops o (σ.loc (rdS ops o σ) (rdB o σ) s0 b0) = some (p1, u) ∧ drawE P nw ops s0 b0 n l (σ.up u) = some r := by
        intro s0 b0
        have := h s0 b0
        unfold drawE at this
        split at this
        · rename_i p1 u1 h1
          split at this
          · rename_i r1 h2
            simp only [Option.some.injEq, List.cons.injEq, Prod.mk.injEq] at this
            obtain ⟨⟨rfl, rfl⟩, rfl⟩ := this
            exact ⟨h1, h2⟩
          · cases this
        · cases this
      unfold finE at hf
      split at hf
      · rename_i fp hfp
        split at hf
        · rename_i q x hq
          cases hf
          exact RW_cons (e := effE ops o σ u) (Loc_of fun s0 b0 => stepG_one (hs s0 b0).1 hp.1) (agr_of rfl rfl) hfp (RW_run (n := n) (fun s0 b0 => (hs s0 b0).2) hq hp.2 hN)
        · cases hf
      · cases hf
/-- An operation that is shown alone: a call. -/
theorem RW_op [Glob] {us : List (Nat × SV)} {ub : List (Nat × Option Ob)} {fp : Fp} (hg : o.guard = none)
    (h : ∀ s0 b0, OpW P o (fun σ' => σ' = (σ.loc (rdS ops o σ) (rdB o σ) s0 b0).over us ub) (σ.loc (rdS ops o σ) (rdB o σ) s0 b0))
    (hfp : forceFp (Eff.fp ⟨rdS ops o σ, rdB o σ, us, ub⟩) = some fp) (hN : RW P ops Q (fp :: acc) l (σ.over us ub)) : RW P ops Q acc (o :: l) σ :=
  RW_cons (e := ⟨rdS ops o σ, rdB o σ, us, ub⟩) (Loc_of fun s0 b0 K w I g tm hi => by
    rw [if_pos (by simp [Region.wanted, hg])]
    exact h s0 b0 K w I g tm hi) (agr_of rfl rfl) hfp hN
theorem RW_opT [Glob] {us : List (Nat × SV)} {ub : List (Nat × Option Ob)} {fp : Fp} {j d : Nat} {pol : Bool} (hg : o.guard = some (j, pol)) (hj : gSlot ops j = some d) (hn : Nat.blt d σ.n = true) (hd : σ.slots d = .one (.d .bo pol))
    (h : ∀ s0 b0, OpW P o (fun σ' => σ' = (σ.loc (rdS ops o σ) (rdB o σ) s0 b0).over us ub) (σ.loc (rdS ops o σ) (rdB o σ) s0 b0))
    (hfp : forceFp (Eff.fp ⟨rdS ops o σ, rdB o σ, us, ub⟩) = some fp) (hN : RW P ops Q (fp :: acc) l (σ.over us ub)) : RW P ops Q acc (o :: l) σ := by
  refine RW_cons (e := ⟨rdS ops o σ, rdB o σ, us, ub⟩) (Loc_of fun s0 b0 K w I g tm hi => ?_) (agr_of rfl rfl) hfp hN
  have hj' : (ops.toArray[j]?).bind (·.dst) = some d := by simpa [gSlot] using hj
  have hsl : (σ.loc (rdS ops o σ) (rdB o σ) s0 b0).slots d = .one (.d .bo pol) := by
    show lookO (rdS ops o σ) d (s0 d) = _
    simp [rdS, guardT, hg, hj, lookO, hd]
  have hy := yielded_of hi hj' hsl (Nat.le_of_ble_eq_true hn)
  rw [if_pos (by simp [Region.wanted, hg, hy])]
  exact h s0 b0 K w I g tm hi
/-- A guard that is open: both ways. -/
theorem put_self {d : Nat} {s : SV} (h : σ.slots d = s) : σ.put d s = σ := by
  unfold St.put
  cases σ with
  | mk n sl ob =>
    congr 1
    funext t
    simp only at h ⊢
    by_cases e : t = d
    · subst e; simp [h]
    · simp [beq_ne e]
theorem RW_gs [Glob] {j d : Nat} {pol t : Bool} (_hg : o.guard = some (j, pol)) (_hj : gSlot ops j = some d) (hd : σ.slots d = .one (.d .bo t))
    (h1 : t = true → RW P ops Q acc (o :: l) (σ.put d (.one (.d .bo true)))) (h0 : t = false → RW P ops Q acc (o :: l) (σ.put d (.one (.d .bo false)))) : RW P ops Q acc (o :: l) σ := by
  cases t with
  | true => have := h1 rfl; rwa [put_self hd] at this
  | false => have := h0 rfl; rwa [put_self hd] at this
end Go.LX
