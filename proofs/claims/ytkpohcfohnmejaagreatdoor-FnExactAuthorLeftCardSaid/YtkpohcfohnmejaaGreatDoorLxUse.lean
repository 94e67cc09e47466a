/- A part of the proof of the statement in the row text. -/
import Derived.Test.YtkpohcfohnmejaaGreatDoorLxStep
/- Regions that draw their order. -/
set_option linter.unusedVariables false
set_option linter.unusedSimpArgs false
namespace Go.LX

variable {P : Program} {σ : St}

/-! ### The walk -/
/-- Does i stand before j? (Looked for along the edges, f steps far.) -/
def reach (ops : List Oper) : Nat → Nat → Nat → Bool
  | 0, _, _ => false
  | f + 1, i, j => match ops[j]? with
    | some o => o.after.toList.any fun e => Region.binds .any e && (Nat.beq e.on i || (Nat.blt i e.on && reach ops f i e.on))
    | none => false
theorem reach_tr {ops : List Oper} : ∀ {f i j : Nat}, reach ops f i j = true → Tr ops.toArray i j := by
  intro f
  induction f with
  | zero => intro i j h; cases h
  | succ f ih =>
    intro i j h
    unfold reach at h
    cases ho : ops[j]? with
    | none => simp [ho] at h
    | some o =>
      simp only [ho] at h
      obtain ⟨e, he, h⟩ := List.any_eq_true.1 h
      obtain ⟨h1, h2⟩ := Bool.and_eq_true_iff.1 h
      have ho' : ops.toArray[j]? = some o := by simpa using ho
      have he' : e ∈ o.after := by simpa using he
      rcases Bool.or_eq_true_iff.1 h2 with h2 | h2
      · rw [← Nat.eq_of_beq_eq_true h2]
        exact .base ho' he' h1
      · exact .step ho' he' h1 (ih (Bool.and_eq_true_iff.1 h2).2)
def chkAll (ops : List Oper) (j : Nat) (e : Fp) : List (Nat × Fp) → Bool
  | [] => true
  | x :: r => (!conflF x.2 e || reach ops ops.length x.1 j) && chkAll ops j e r
/-- Each meets the earlier ones only along edges. -/
def chkF (ops : List Oper) : Nat → List (Nat × Fp) → List Fp → Bool
  | _, _, [] => true
  | j, prev, e :: es => chkAll ops j e prev && chkF ops (j + 1) ((j, e) :: prev) es
/-- Numbers for the operations: what binds stands lower. -/
def relax (md : Region.Mode) (rk : List Nat) : List Oper → List Nat
  | [] => []
  | o :: l => o.after.toList.foldl (fun m e => bif Region.binds md e then max m (rk.getD e.on 0 + 1) else m) 0 :: relax md rk l
def relaxN (md : Region.Mode) (ops : List Oper) : Nat → List Nat → List Nat
  | 0, rk => rk
  | n + 1, rk => relaxN md ops n (relax md rk ops)
def rkB (md : Region.Mode) (len : Nat) (rk : List Nat) : Nat → List Oper → Bool
  | _, [] => true
  | i, o :: l => (o.after.toList.all fun e => !Region.binds md e || (Nat.blt e.on len && Nat.blt (rk.getD e.on 0) (rk.getD i 0))) && rkB md len rk (i + 1) l
def edgeGo (ops : List Oper) : Bool := rkB .any ops.length (List.range ops.length) 0 ops && (rkB .text ops.length (List.range ops.length) 0 ops && rkB .gc ops.length (relaxN .gc ops ops.length []) 0 ops)
theorem rkB_spec {md : Region.Mode} {len : Nat} {rk : List Nat} : ∀ {l : List Oper} {i : Nat}, rkB md len rk i l = true → ∀ (j : Nat) (o : Oper), l[j]? = some o → ∀ e ∈ o.after, Region.binds md e = true → e.on < len ∧ rk.getD e.on 0 < rk.getD (i + j) 0
  | [], _, _, j, o, h, _, _, _ => by simp at h
  | o :: l, i, h, j, o', hj, e, he, hb => by
    obtain ⟨h1, h2⟩ := Bool.and_eq_true_iff.1 h
    cases j with
    | zero =>
      simp at hj
      subst hj
      have := List.all_eq_true.1 h1 e (by simpa using he)
      rw [hb] at this
      simp only [Bool.not_true, Bool.false_or, Bool.and_eq_true] at this
      exact ⟨Nat.le_of_ble_eq_true this.1, Nat.le_of_ble_eq_true this.2⟩
    | succ j =>
      have := rkB_spec h2 j o' (by simpa using hj) e he hb
      rwa [show i + 1 + j = i + (j + 1) by omega] at this
theorem edge_spec {ops : List Oper} (h : edgeGo ops = true) (md : Region.Mode) : ∃ rk : Nat → Nat, ∀ (i : Nat) (o : Oper), ops.toArray[i]? = some o → ∀ e ∈ o.after, Region.binds md e = true → e.on < ops.toArray.size ∧ rk e.on < rk i := by
  obtain ⟨h1, h⟩ := Bool.and_eq_true_iff.1 h
  obtain ⟨h2, h3⟩ := Bool.and_eq_true_iff.1 h
  have go : ∀ {rk : List Nat}, rkB md ops.length rk 0 ops = true → ∃ rk : Nat → Nat, ∀ (i : Nat) (o : Oper), ops.toArray[i]? = some o → ∀ e ∈ o.after, Region.binds md e = true → e.on < ops.toArray.size ∧ rk e.on < rk i := by
    intro rk h
    refine ⟨fun i => rk.getD i 0, fun i o ho e he hb => ?_⟩
    have := rkB_spec h i o (by simpa using ho) e he hb
    rw [Nat.zero_add] at this
    simpa using this
  cases md with
  | any => exact go h1
  | text => exact go h2
  | gc => exact go h3
theorem chkAll_spec {ops : List Oper} {j : Nat} {e : Fp} : ∀ {r : List (Nat × Fp)}, chkAll ops j e r = true → ∀ x ∈ r, conflF x.2 e = true → Tr ops.toArray x.1 j
  | [], _, x, hx, _ => by simp at hx
  | y :: r, h, x, hx, hc => by
    obtain ⟨h1, h2⟩ := Bool.and_eq_true_iff.1 h
    rcases List.mem_cons.1 hx with rfl | hx
    · rw [hc] at h1
      simp at h1
      exact reach_tr h1
    · exact chkAll_spec h2 x hx hc
theorem chkF_spec {ops : List Oper} : ∀ {es : List Fp} {j : Nat} {prev : List (Nat × Fp)}, chkF ops j prev es = true → ∀ (b : Nat) (e : Fp), es[b]? = some e →
    (∀ x ∈ prev, conflF x.2 e = true → Tr ops.toArray x.1 (j + b)) ∧ ∀ (a : Nat) (f : Fp), es[a]? = some f → a < b → conflF f e = true → Tr ops.toArray (j + a) (j + b)
  | [], _, _, _, b, e, hb => by simp at hb
  | e0 :: es, j, prev, h, b, e, hb => by
    obtain ⟨h1, h2⟩ := Bool.and_eq_true_iff.1 h
    cases b with
    | zero =>
      simp at hb
      subst hb
      exact ⟨fun x hx hc => chkAll_spec h1 x hx hc, fun a f _ hlt => absurd hlt (by omega)⟩
    | succ b =>
      obtain ⟨r1, r2⟩ := chkF_spec h2 b e (by simpa using hb)
      refine ⟨fun x hx hc => ?_, fun a f ha hlt hc => ?_⟩
      · have := r1 x (by simp [hx]) hc
        rwa [show j + 1 + b = j + (b + 1) by omega] at this
      · cases a with
        | zero =>
          simp at ha
          subst ha
          have := r1 (j, e0) (by simp) hc
          rwa [show j + 1 + b = j + (b + 1) by omega] at this
        | succ a =>
          have := r2 a f (by simpa using ha) (by omega) hc
          rwa [show j + 1 + b = j + (b + 1) by omega, show j + 1 + a = j + (a + 1) by omega] at this

def zipIt : Nat → List Oper → List Eff → List It
  | i, o :: l, e :: es => ⟨i, o, e⟩ :: zipIt (i + 1) l es
  | _, _, _ => []
def ChainE [Glob] (P : Program) (ops : Array Oper) (n : Nat) : List Oper → List Eff → St → St → Prop
  | [], [], σ, σ' => σ' = σ
  | o :: l, e :: es, σ, σ' => Loc P ops o e n ∧ Agr σ e ∧ ChainE P ops n l es (σ.over e.us e.ub) σ'
  | _, _, _, _ => False
/-- What is left of a region, from the state that the text's order reaches. -/
def RW [Glob] (P : Program) (ops : List Oper) (Q : Exit → St → Prop) (acc : List Fp) (l : List Oper) (σ : St) : Prop :=
  ∃ es σ', ChainE P ops.toArray σ.n l es σ σ' ∧ Q .normal σ' ∧ chkF ops 0 [] (acc.reverse ++ es.map Eff.fp) = true

theorem ChainE.zip [Glob] {ops : Array Oper} {n : Nat} : ∀ {l : List Oper} {es : List Eff} {i : Nat} {σ σ' : St}, ChainE P ops n l es σ σ' → Chain P ops n (zipIt i l es) σ σ' ∧ l.length = es.length
  | [], [], _, _, _, h => ⟨h, rfl⟩
  | o :: l, e :: es, i, _, _, h => ⟨⟨h.1, h.2.1, (ChainE.zip h.2.2).1⟩, by simp [(ChainE.zip (i := 0) h.2.2).2]⟩
  | [], _ :: _, _, _, _, h => h.elim
  | _ :: _, [], _, _, _, h => h.elim
theorem zip_get : ∀ {l : List Oper} {es : List Eff} {i k : Nat} {x : It}, (zipIt i l es)[k]? = some x → x.i = i + k ∧ l[k]? = some x.o ∧ es[k]? = some x.e
  | [], _, _, _, _, h => by simp [zipIt] at h
  | _ :: _, [], _, _, _, h => by simp [zipIt] at h
  | o :: l, e :: es, i, 0, x, h => by simp [zipIt] at h; subst h; simp
  | o :: l, e :: es, i, k + 1, x, h => by
    obtain ⟨h1, h2, h3⟩ := zip_get (l := l) (es := es) (i := i + 1) (k := k) (by simpa [zipIt] using h)
    exact ⟨by omega, by simpa using h2, by simpa using h3⟩
theorem zip_len : ∀ {l : List Oper} {es : List Eff} {i : Nat}, l.length = es.length → (zipIt i l es).length = l.length
  | [], [], _, _ => rfl
  | o :: l, e :: es, i, h => by simp [zipIt, zip_len (l := l) (es := es) (i := i + 1) (by simpa using h)]
  | [], _ :: _, _, h => by simp at h
  | _ :: _, [], _, h => by simp at h

theorem W_draw [Glob] {ops : List Oper} {Q : Exit → St → Prop} (h : RW P ops Q [] ops σ) (hedge : edgeGo ops = true) (id : Nat) : W P (.region id ops.toArray true) Q σ := by
  intro K w I g tm hi
  obtain ⟨es, σ', hch, hq, hchk⟩ := h
  obtain ⟨hz, hl⟩ := hch.zip (i := 0)
  refine wp_region_draw fun t => ?_
  have hsch : ∃ md t', Region.schedule (P.follows .mixedOrders) ops.toArray t = Region.linearise.go md ops.toArray ops.toArray.size t' (Array.replicate ops.toArray.size false) [] := by
    unfold Region.schedule Region.linearise
    split
    · exact ⟨_, _, rfl⟩
    · exact ⟨_, _, rfl⟩
  obtain ⟨md, t', hsch⟩ := hsch
  rw [hsch]
  obtain ⟨rk, hrk⟩ := edge_spec hedge md
  refine wpAny_sound _ _ _ _ _ ?_
  have hi' : Inv K { w with drawn := w.drawn + 1 } I g σ tm := hi.grow ⟨rfl, rfl, rfl, Nat.le_refl _, fun _ _ => rfl⟩
  refine draw_main (n := σ.n) hq rk hrk K _ _ (zipIt 0 ops es) σ (by rw [zip_len hl]; simp) (by simp) rfl ?_ ?_ ?_ ?_ hz _ I g tm hi'
  · intro i o ho _
    have hlt : i < (zipIt 0 ops es).length := by
      rw [zip_len hl]
      have := (Array.getElem?_eq_some_iff.1 ho).1
      simpa using this
    refine ⟨(zipIt 0 ops es)[i], List.getElem_mem hlt, ?_⟩
    have := (zip_get (List.getElem?_eq_getElem hlt)).1
    omega
  · intro x hx
    obtain ⟨k, hk⟩ := List.mem_iff_getElem?.1 hx
    obtain ⟨h1, h2, h3⟩ := zip_get hk
    have hlt := (List.getElem?_eq_some_iff.1 h2).1
    rw [Nat.zero_add] at h1
    refine ⟨by rw [h1]; simpa using h2, ?_⟩
    rw [h1]
    simp [hlt]
  · rw [List.pairwise_iff_getElem]
    intro a b ha hb hab
    obtain ⟨a1, a2, a3⟩ := zip_get (List.getElem?_eq_getElem ha)
    obtain ⟨b1, b2, b3⟩ := zip_get (List.getElem?_eq_getElem hb)
    refine ⟨by omega, fun hc => ?_⟩
    have := (chkF_spec (by simpa using hchk) b _ (show (es.map Eff.fp)[b]? = some (zipIt 0 ops es)[b].e.fp by simp [b3])).2 a _ (show (es.map Eff.fp)[a]? = some (zipIt 0 ops es)[a].e.fp by simp [a3]) hab hc
    rw [a1, b1]
    simpa using this
  · intro j o ho hj
    have hlt := (Array.getElem?_eq_some_iff.1 ho).1
    simp at hlt
    simp [hlt] at hj

/-! ### Single operations in such a region -/
def opTs : List Operand → List Nat
  | [] => []
  | .tmp t :: r => t :: opTs r
  | _ :: r => opTs r
def opdsOf : Op → List Operand
  | .move x | .assign x | .box _ x | .load _ x | .nilCheck x | .unOp _ _ x | .convert _ _ x | .makeInterface _ x | .fieldAddr _ x _ | .field _ x _ | .extract x _ => [x]
  | .pick c a b => [c, a, b]
  | .build _ ps | .buildSlice _ _ ps => ps.toList.map (·.2)
  | .store _ x y | .binOp _ _ x y _ | .indexAddr _ x y | .index _ x y | .makeSlice _ x y => [x, y]
  | .makeFunc _ a b => a.toList ++ b.toList
  | .slice _ x lo hi mx => x :: (lo.toList ++ hi.toList ++ mx.toList)
  | .call c => (match c.callee with | .value f => [f] | .invoke r _ => [r] | .builtin _ => []) ++ c.args.toList
  | _ => []
def guardT (ops : List Oper) (o : Oper) : List Nat :=
  match o.guard with
  | some (j, _) => (gSlot ops j).toList
  | none => []
def cRefs : C → List Nat
  | .rf o _ => [o]
  | .fc _ caps => caps
  | _ => []
def obRefs : Option Ob → List Nat
  | some (.cells cs) => cs.flatMap cRefs
  | _ => []
/-- The objects that an operation looks at: those that its operands name; for a call, those that these name too; its own new ones. -/
def objT [Glob] (o : Oper) (σ : St) : List Nat :=
  match o.op with
  | .move _ | .assign _ | .pick .. | .build .. | .extract .. | .field .. => []
  | .load _ x => (σ.ev x).cells.flatMap cRefs
  | .store _ x _ => (σ.ev x).cells.flatMap cRefs
  | .box .. | .alloc _ => match o.dst with
    | some t => (newO σ.objs t).toList
    | none => []
  | .call _ => let r := (opdsOf o.op).flatMap fun x => (σ.ev x).cells.flatMap cRefs
    r ++ (r.flatMap fun b => obRefs (σ.objs b)) ++ (match o.dst with
    | some t => (List.range 16).map fun k => 1000 * (t + 1) + k
    | none => [])
  | op => ((opdsOf op).flatMap fun x => (σ.ev x).cells.flatMap cRefs) ++ (match o.dst with
    | some t => [1000 * (t + 1)]
    | none => [])
def rdS (ops : List Oper) (o : Oper) (σ : St) : List (Nat × SV) := (guardT ops o ++ (o.dst.toList ++ opTs (opdsOf o.op))).map fun t => (t, σ.slots t)
def rdB [Glob] (o : Oper) (σ : St) : List (Nat × Option Ob) := (objT o σ).map fun b => (b, σ.objs b)

theorem agr_of {us : List Nat} {bs : List Nat} {e : Eff} (h1 : e.rs = us.map fun t => (t, σ.slots t)) (h2 : e.bs = bs.map fun b => (b, σ.objs b)) : Agr σ e := by
  refine ⟨fun x hx => ?_, fun x hx => ?_⟩
  · rw [h1] at hx; obtain ⟨t, _, rfl⟩ := List.mem_map.1 hx; rfl
  · rw [h2] at hx; obtain ⟨t, _, rfl⟩ := List.mem_map.1 hx; rfl

variable {ops : List Oper} {Q : Exit → St → Prop} {acc : List Fp} {l : List Oper} {o : Oper}

theorem RW_nil [Glob] (hq : Q .normal σ) (h1 : chkF ops 0 [] acc.reverse = true) : RW P ops Q acc [] σ := ⟨[], σ, rfl, hq, by simpa using h1⟩
def forceN : List Nat → Option (List Nat)
  | [] => some []
  | 0 :: r => match forceN r with
    | some r' => some (0 :: r')
    | none => none
  | (n + 1) :: r => match forceN r with
    | some r' => some ((n + 1) :: r')
    | none => none
theorem forceN_eq : ∀ {l l' : List Nat}, forceN l = some l' → l' = l
  | [], _, h => by cases h; rfl
  | 0 :: r, l', h => by
    unfold forceN at h
    split at h
    · rename_i h1; cases h; rw [forceN_eq h1]
    · cases h
  | (n + 1) :: r, l', h => by
    unfold forceN at h
    split at h
    · rename_i h1; cases h; rw [forceN_eq h1]
    · cases h
def forceFp (f : Fp) : Option Fp := match forceN f.rd, forceN f.rb, forceN f.wr, forceN f.wb with
  | some a, some b, some c, some d => some ⟨a, b, c, d⟩
  | _, _, _, _ => none
theorem forceFp_eq {f f' : Fp} (h : forceFp f = some f') : f' = f := by
  unfold forceFp at h
  split at h
  · rename_i h1 h2 h3 h4; cases h; rw [forceN_eq h1, forceN_eq h2, forceN_eq h3, forceN_eq h4]
  · cases h
theorem RW_cons [Glob] {e : Eff} {fp : Fp} (hl : Loc P ops.toArray o e σ.n) (ha : Agr σ e) (hfp : forceFp e.fp = some fp) (hN : RW P ops Q (fp :: acc) l (σ.over e.us e.ub)) : RW P ops Q acc (o :: l) σ := by
  obtain ⟨es, σ', h1, h2, h3⟩ := hN
  obtain rfl := forceFp_eq hfp
  exact ⟨e :: es, σ', ⟨hl, ha, h1⟩, h2, by simpa using h3⟩

/-- The state in which an operation is shown: what it reads stands, all else is open. -/
def St.loc (σ : St) (rs : List (Nat × SV)) (bs : List (Nat × Option Ob)) (s0 : Nat → SV) (b0 : Nat → Option Ob) : St := (St.mk σ.n s0 b0).over rs bs

/-- An operation, its guard seen to, from σ on. -/
theorem stepG_one [Glob] {nw : Bool} {p : Prop} {u : Upd} (h : stepG P nw ops o σ = some (p, u)) (hp : p) : One P ops.toArray o (fun σ' => σ' = σ.up u) σ := by
  intro K w I g tm hi
  unfold stepG at h
  split at h
  · rename_i hg
    rw [if_pos (by simp [Region.wanted, hg])]
    exact stepF_ok (N := fun σ' => σ' = σ.up u) h hp rfl K w I g tm hi
  · rename_i j pol hg
    split at h
    · rename_i d hd
      cases hb : Nat.blt d σ.n with
      | false => rw [hb] at h; cases h
      | true =>
        rw [hb] at h
        simp only [cond_true] at h
        have hj : (ops.toArray[j]?).bind (·.dst) = some d := by simpa [gSlot] using hd
        split at h
        · rename_i b hsl
          have hy := yielded_of hi hj hsl (Nat.le_of_ble_eq_true hb)
          split at h
          · rename_i hx
            have hbp : b = pol := by cases b <;> cases pol <;> simp_all
            rw [if_pos (by simp [Region.wanted, hg, hy, hbp])]
            exact stepF_ok (N := fun σ' => σ' = σ.up u) h hp rfl K w I g tm hi
          · rename_i hx
            have hbp : b = !pol := by cases b <;> cases pol <;> simp_all
            rw [if_neg (by simp [Region.wanted, hg, hy, hbp])]
            split at h
            · rename_i e he
              cases hbe : Nat.blt e σ.n with
              | false => rw [hbe] at h; cases h
              | true =>
                rw [hbe] at h
                simp only [cond_true, Option.some.injEq, Prod.mk.injEq] at h
                obtain ⟨_, rfl⟩ := h
                refine ⟨_, I, g, rfl, ?_⟩
                rw [he]
                exact hi.put (s := .tu []) (Nat.le_of_ble_eq_true hbe) ⟨[], rfl, trivial⟩ fun i c hc => by simp [SV.cells] at hc
            · rename_i he
              simp only [Option.some.injEq, Prod.mk.injEq] at h
              obtain ⟨_, rfl⟩ := h
              refine ⟨_, I, g, rfl, ?_⟩
              rw [he]
              exact hi
        · rename_i hsl
          have hy := yielded_un hi hj hsl (Nat.le_of_ble_eq_true hb)
          rw [if_neg (by simp [Region.wanted, hg, hy])]
          split at h
          · rename_i e he
            cases hbe : Nat.blt e σ.n with
            | false => rw [hbe] at h; cases h
            | true =>
              rw [hbe] at h
              simp only [cond_true, Option.some.injEq, Prod.mk.injEq] at h
              obtain ⟨_, rfl⟩ := h
              refine ⟨_, I, g, rfl, ?_⟩
              rw [he]
              exact hi.put (s := .tu []) (Nat.le_of_ble_eq_true hbe) ⟨[], rfl, trivial⟩ fun i c hc => by simp [SV.cells] at hc
          · rename_i he
            simp only [Option.some.injEq, Prod.mk.injEq] at h
            obtain ⟨_, rfl⟩ := h
            refine ⟨_, I, g, rfl, ?_⟩
            rw [he]
            exact hi
        · cases h
    · cases h
theorem Loc_of [Glob] {e : Eff} (h : ∀ s0 b0, One P ops.toArray o (fun σ' => σ' = (σ.loc e.rs e.bs s0 b0).over e.us e.ub) (σ.loc e.rs e.bs s0 b0)) : Loc P ops.toArray o e σ.n := by
  intro σ0 hn ha
  have e0 : σ.loc e.rs e.bs σ0.slots σ0.objs = σ0 := by
    unfold St.loc
    rw [← hn]
    exact over_self ha
  have := h σ0.slots σ0.objs
  rw [e0] at this
  exact this
def effE [Glob] (ops : List Oper) (o : Oper) (σ : St) (u : Upd) : Eff := ⟨rdS ops o σ, rdB o σ, u.us, u.ub⟩
/-- n operations in a region that draws its order: what must hold, what each does; shown where what they do not read is open. -/
def drawE [Glob] (P : Program) (nw : Bool) (ops : List Oper) (s0 : Nat → SV) (b0 : Nat → Option Ob) : Nat → List Oper → St → Option (List (Prop × Upd))
  | 0, _, _ => some []
  | _ + 1, [], _ => some []
  | n + 1, o :: l, σ => match stepG P nw ops o (σ.loc (rdS ops o σ) (rdB o σ) s0 b0) with
    | some (p, u) => match drawE P nw ops s0 b0 n l (σ.up u) with
      | some r => some ((p, u) :: r)
      | none => none
    | none => none
/-- What the operations come to: what must hold, what each reads and writes, what is left, the state. -/
def finE [Glob] (ops : List Oper) : Nat → List Oper → St → List Fp → List (Prop × Upd) → Option (Prop × (List Fp × List Oper × St))
  | 0, l, σ, acc, [] => some (True, acc, l, σ)
  | _ + 1, [], σ, acc, [] => some (True, acc, [], σ)
  | n + 1, o :: l, σ, acc, (p, u) :: r => match forceFp (effE ops o σ u).fp with
    | some fp => match finE ops n l (σ.up u) (fp :: acc) r with
      | some (q, x) => some (p ∧ q, x)
      | none => none
    | none => none
  | _, _, _, _, _ => none
theorem RW_run [Glob] {nw : Bool} : ∀ {n : Nat} {l l' : List Oper} {σ σ' : St} {acc acc' : List Fp} {L : List (Prop × Upd)} {p : Prop}, (∀ s0 b0, drawE P nw ops s0 b0 n l σ = some L) → finE ops n l σ acc L = some (p, acc', l', σ') → p →
    RW P ops Q acc' l' σ' → RW P ops Q acc l σ
  | 0, l, l', σ, σ', acc, acc', L, p, _, hf, _, hN => by
    cases L with
    | nil => cases hf; exact hN
    | cons => cases hf
  | _ + 1, [], l', σ, σ', acc, acc', L, p, _, hf, _, hN => by
    cases L with
    | nil => cases hf; exact hN
    | cons => cases hf
  | n + 1, o :: l, l', σ, σ', acc, acc', L, p, h, hf, hp, hN => by
    cases L with
    | nil => cases hf
    | cons x r =>
      obtain ⟨p1, u⟩ := x
      have hs : ∀ s0 b0, stepG P nw ops o (σ.loc (rdS ops o σ) (rdB o σ) s0 b0) = some (p1, u) ∧ drawE P nw ops s0 b0 n l (σ.up u) = some r := by
        intro s0 b0
        have := h s0 b0
        unfold drawE at this
        split at this
        · rename_i p1 u1 h1
          split at this
          · rename_i r1 h2
            simp only [Option.some.injEq, List.cons.injEq, Prod.mk.injEq] at this
            obtain ⟨⟨rfl, rfl⟩, rfl⟩ := this
            exact ⟨h1, h2⟩
          · cases this
        · cases this
      unfold finE at hf
      split at hf
      · rename_i fp hfp
        split at hf
        · rename_i q x hq
          cases hf
          exact RW_cons (e := effE ops o σ u) (Loc_of fun s0 b0 => stepG_one (hs s0 b0).1 hp.1) (agr_of rfl rfl) hfp (RW_run (n := n) (fun s0 b0 => (hs s0 b0).2) hq hp.2 hN)
        · cases hf
      · cases hf
/-- An operation that is shown alone: a call. -/
theorem RW_op [Glob] {us : List (Nat × SV)} {ub : List (Nat × Option Ob)} {fp : Fp} (hg : o.guard = none)
    (h : ∀ s0 b0, OpW P o (fun σ' => σ' = (σ.loc (rdS ops o σ) (rdB o σ) s0 b0).over us ub) (σ.loc (rdS ops o σ) (rdB o σ) s0 b0))
    (hfp : forceFp (Eff.fp ⟨rdS ops o σ, rdB o σ, us, ub⟩) = some fp) (hN : RW P ops Q (fp :: acc) l (σ.over us ub)) : RW P ops Q acc (o :: l) σ :=
  RW_cons (e := ⟨rdS ops o σ, rdB o σ, us, ub⟩) (Loc_of fun s0 b0 K w I g tm hi => by
    rw [if_pos (by simp [Region.wanted, hg])]
    exact h s0 b0 K w I g tm hi) (agr_of rfl rfl) hfp hN
theorem RW_opT [Glob] {us : List (Nat × SV)} {ub : List (Nat × Option Ob)} {fp : Fp} {j d : Nat} {pol : Bool} (hg : o.guard = some (j, pol)) (hj : gSlot ops j = some d) (hn : Nat.blt d σ.n = true) (hd : σ.slots d = .one (.d .bo pol))
    (h : ∀ s0 b0, OpW P o (fun σ' => σ' = (σ.loc (rdS ops o σ) (rdB o σ) s0 b0).over us ub) (σ.loc (rdS ops o σ) (rdB o σ) s0 b0))
    (hfp : forceFp (Eff.fp ⟨rdS ops o σ, rdB o σ, us, ub⟩) = some fp) (hN : RW P ops Q (fp :: acc) l (σ.over us ub)) : RW P ops Q acc (o :: l) σ := by
  refine RW_cons (e := ⟨rdS ops o σ, rdB o σ, us, ub⟩) (Loc_of fun s0 b0 K w I g tm hi => ?_) (agr_of rfl rfl) hfp hN
  have hj' : (ops.toArray[j]?).bind (·.dst) = some d := by simpa [gSlot] using hj
  have hsl : (σ.loc (rdS ops o σ) (rdB o σ) s0 b0).slots d = .one (.d .bo pol) := by
    show lookO (rdS ops o σ) d (s0 d) = _
    simp [rdS, guardT, hg, hj, lookO, hd]
  have hy := yielded_of hi hj' hsl (Nat.le_of_ble_eq_true hn)
  rw [if_pos (by simp [Region.wanted, hg, hy])]
  exact h s0 b0 K w I g tm hi
/-- A guard that is open: both ways. -/
theorem put_self {d : Nat} {s : SV} (h : σ.slots d = s) : σ.put d s = σ := by
  unfold St.put
  cases σ with
  | mk n sl ob =>
    congr 1
    funext t
    simp only at h ⊢
    by_cases e : t = d
    · subst e; simp [h]
    · simp [beq_ne e]
theorem RW_gs [Glob] {j d : Nat} {pol t : Bool} (_hg : o.guard = some (j, pol)) (_hj : gSlot ops j = some d) (hd : σ.slots d = .one (.d .bo t))
    (h1 : t = true → RW P ops Q acc (o :: l) (σ.put d (.one (.d .bo true)))) (h0 : t = false → RW P ops Q acc (o :: l) (σ.put d (.one (.d .bo false)))) : RW P ops Q acc (o :: l) σ := by
  cases t with
  | true => have := h1 rfl; rwa [put_self hd] at this
  | false => have := h0 rfl; rwa [put_self hd] at this
end Go.LX

/- Calls as updates; loops by templates; bounds. -/
set_option linter.unusedVariables false
set_option linter.unusedSimpArgs false
namespace Go.LX

variable {P : Program} {σ : St}

theorem lookO_app {a b : List (Nat × SV)} {t : Nat} {d : SV} : lookO (a ++ b) t d = lookO a t (lookO b t d) := by
  induction a with
  | nil => rfl
  | cons x r ih => simp only [List.cons_append, lookO, ih]
theorem lookOB_app {a b : List (Nat × Option Ob)} {t : Nat} {d : Option Ob} : lookOB (a ++ b) t d = lookOB a t (lookOB b t d) := by
  induction a with
  | nil => rfl
  | cons x r ih => simp only [List.cons_append, lookOB, ih]
theorem over_over {us us' : List (Nat × SV)} {ub ub' : List (Nat × Option Ob)} : (σ.over us ub).over us' ub' = σ.over (us' ++ us) (ub' ++ ub) := by
  unfold St.over
  congr 1
  · funext t; exact lookO_app.symm
  · funext t; exact lookOB_app.symm
/-- New objects of a call. -/
def obL : Nat → List S0 → List (Nat × Option Ob)
  | _, [] => []
  | id, .own e t dp xs :: r => obL (id + 1) r ++ [(id, some (.rows e t dp xs))]
  | id, _ :: r => obL (id + 1) r
theorem enC_over : ∀ {ss : List S0} {id : Nat} {σ : St}, enC id ss σ = σ.over [] (obL id ss)
  | [], _, σ => by cases σ; rfl
  | .own e t dp xs :: r, id, σ => by
    show enC (id + 1) r (σ.setO id (.rows e t dp xs)) = _
    rw [enC_over, up_setO, over_over]; rfl
  | .d t x :: r, id, σ => enC_over (ss := r) (id := id + 1)
  | .any :: r, id, σ => enC_over (ss := r) (id := id + 1)
def dstU : Option Nat → SV → List (Nat × SV)
  | some t, s => [(t, s)]
  | none, _ => []
theorem putD_over {d : Option Nat} {s : SV} {ub : List (Nat × Option Ob)} : (σ.over [] ub).putD d s = σ.over (dstU d s) ub := by
  cases d with
  | none => rfl
  | some t => show (σ.over [] ub).put t s = _; rw [up_put, over_over]; rfl
theorem kills_over : ∀ {os : List Nat} {σ : St}, σ.kills os = σ.over [] ((os.reverse).map fun o => (o, some .dead))
  | [], σ => by cases σ; rfl
  | o :: os, σ => by
    show (σ.setO o .dead).kills os = _
    rw [kills_over, up_setO, over_over]; simp

/-- A call with data. -/
theorem callD [Glob] {o : Oper} {d : Option Nat} {f : FuncId} {xs : List Operand} {tys : Array TypeId} {args post : List SA} {res : RS} {id : Nat} {N : St → Prop} (a : Bool) (hF : FnC P f args post res) (ho : o.op = .call { callee := .value (.func f), args := xs.toArray, argTypes := tys }) (hd : o.dst = d) (ht : dstB σ.n d = true) (hf : fnB P f = true)
    (hargs : dPs a σ.objs args (xs.map σ.ev)) (hcl : (!a || res.cells.all S0.closed) = true) (hid : newR σ.objs d res.cells.length = some id) (hN : N (σ.over (dstU d (res.svN id)) (obL id res.cells))) : OpW P o N σ :=
  op_call a hF ho hd ht hf hargs hcl hid (by rw [enC_over, putD_over]; exact hN)
/-- The argument that is written. -/
def liveN : Nat → List SA → Option Nat
  | _, [] => none
  | k, .bx _ :: _ => some k
  | k, .c (.own ..) :: _ => some k
  | k, .ag ss :: r => bif ss.all S0.noOwn then liveN (k + 1) r else some k
  | k, _ :: r => liveN (k + 1) r
/-- A call with a slice that it may write. -/
theorem callO [Glob] {k : Nat} {o : Oper} {d : Option Nat} {f : FuncId} {xs : List Operand} {tys : Array TypeId} {args post : List SA} {res : RS} {id q : Nat} {x : Operand} {e : TypeId} {t : Ty} {ys : List t.T} {s' : S0} {N : St → Prop} (hF : FnC P f args post res) (_hk : liveN 0 args = some k) (ho : o.op = .call { callee := .value (.func f), args := xs.toArray, argTypes := tys }) (hd : o.dst = d) (ht : dstB σ.n d = true) (hf : fnB P f = true)
    (hk : args[k]? = some (.c (.own e t false ys))) (hx : xs[k]? = some x) (hv : σ.ev x = .one (.rf q .ar)) (hq : σ.objs q = some (.rows e t false ys)) (hargs : aPs σ.objs k args (xs.map σ.ev)) (hpk : post[k]? = some (.c s')) (hpb : poB t s' = true) (hpn : nOs k post = true)
    (hid : newR (σ.over [] [(q, some (obOf s'))]).objs d res.cells.length = some id) (hN : N (σ.over (dstU d (res.svN id)) (obL id res.cells ++ [(q, some (obOf s'))]))) : OpW P o N σ :=
  op_callO hF ho hd ht hf hk hx hv hq hargs hpk hpb hpn hid (by rw [enC_over, up_setO, over_over, List.append_nil, putD_over]; exact hN)
/-- A call with a struct, one of whose slices it may write. -/
def ownN : Nat → List C → Option Nat
  | _, [] => none
  | j, .rf _ .ar :: _ => some j
  | j, _ :: r => ownN (j + 1) r
theorem callA [Glob] {k : Nat} {o : Oper} {d : Option Nat} {f : FuncId} {xs : List Operand} {tys : Array TypeId} {args post : List SA} {res : RS} {id j q : Nat} {x : Operand} {e : TypeId} {t : Ty} {ys : List t.T} {ss ss' : List S0} {cs : List C} {s' : S0} {N : St → Prop} (hF : FnC P f args post res) (_hk : liveN 0 args = some k) (ho : o.op = .call { callee := .value (.func f), args := xs.toArray, argTypes := tys }) (hd : o.dst = d) (ht : dstB σ.n d = true) (hf : fnB P f = true)
    (hk : args[k]? = some (.ag ss)) (hx : xs[k]? = some x) (hv : σ.ev x = .ag cs) (hms : msPs σ.objs ss cs) (hos : msOs ss cs = [q]) (_hj : ownN 0 cs = some j) (hj : cs[j]? = some (.rf q .ar)) (hq : σ.objs q = some (.rows e t false ys)) (hargs : aPs σ.objs k args (xs.map σ.ev)) (hpk : post[k]? = some (.ag ss')) (hs' : ss'[j]? = some s') (hnj : nOc j ss' = true) (hpb : poB t s' = true) (hpn : nOs k post = true)
    (hid : newR (σ.over [] [(q, some (obOf s'))]).objs d res.cells.length = some id) (hN : N (σ.over (dstU d (res.svN id)) (obL id res.cells ++ [(q, some (obOf s'))]))) : OpW P o N σ :=
  op_callA hF ho hd ht hf hk hx hv hms hos hj hq hargs hpk hs' hnj hpb hpn hid (by rw [enC_over, up_setO, over_over, List.append_nil, putD_over]; exact hN)
/-- A call with a pointer to a box. -/
def boxU (q idb : Nat) (os : List Nat) (ss' : List S0) : List (Nat × Option Ob) := [(q, some (.cells (enL idb ss')))] ++ (obL idb ss' ++ ([(q, some (.cells (ss'.map fun _ => .any)))] ++ (os.reverse).map fun o => (o, some .dead)))
theorem boxed_over {q idb : Nat} {os : List Nat} {ss' : List S0} : σ.boxed q idb os ss' = σ.over [] (boxU q idb os ss') := by
  unfold St.boxed boxU
  rw [enC_over, up_setO, up_setO, kills_over, over_over, over_over, over_over]; simp
theorem callB [Glob] {k : Nat} {o : Oper} {d : Option Nat} {f : FuncId} {xs : List Operand} {tys : Array TypeId} {args post : List SA} {res : RS} {idb id q : Nat} {x : Operand} {ss ss' : List S0} {cs : List C} {os : List Nat} {N : St → Prop} (hF : FnC P f args post res) (_hk : liveN 0 args = some k) (ho : o.op = .call { callee := .value (.func f), args := xs.toArray, argTypes := tys }) (hd : o.dst = d) (ht : dstB σ.n d = true) (hf : fnB P f = true)
    (hk : args[k]? = some (.bx ss)) (hx : xs[k]? = some x) (hv : σ.ev x = .one (.rf q (.pb 0))) (hq : σ.objs q = some (.cells cs)) (hargs : aPs σ.objs k args (xs.map σ.ev)) (hms : msPs σ.objs ss cs) (hos : msOs ss cs = os) (hnd0 : nodB os = true) (hpos : Nat.blt 0 cs.length = true)
    (hpk : post[k]? = some (.bx ss')) (hpl : Nat.beq ss'.length cs.length = true) (hpn : nOs k post = true)
    (hidb : newR (σ.over [] ((os.reverse).map fun o => (o, some .dead))).objs d ss'.length = some idb) (hid : newR (σ.over [] (boxU q idb os ss')).objs d res.cells.length = some id) (hN : N (σ.over (dstU d (res.svN id)) (obL id res.cells ++ boxU q idb os ss'))) : OpW P o N σ :=
  op_callB hF ho hd ht hf hk hx hv hq hargs hms hos hnd0 hpos hpk hpl hpn (by rw [kills_over]; exact hidb) (by rw [boxed_over]; exact hid) (by rw [enC_over, boxed_over, over_over, List.append_nil, putD_over]; exact hN)

/-! ### Templates -/
def lookS : List (Nat × SV) → Nat → SV
  | [], _ => .un
  | x :: r, t => bif Nat.beq t x.1 then x.2 else lookS r t
def lookB : List (Nat × Ob) → Nat → Option Ob
  | [], _ => none
  | x :: r, t => bif Nat.beq t x.1 then some x.2 else lookB r t
def St.tmpl (n : Nat) (sl : List (Nat × SV)) (ob : List (Nat × Ob)) : St := ⟨n, lookS sl, lookB ob⟩
/-- A number's new name. -/
def rnO : List (Nat × Nat) → Nat → Nat
  | [], o => o
  | x :: r, o => bif Nat.beq o x.1 then x.2 else rnO r o
def rnC (ρ : List (Nat × Nat)) : C → C
  | .rf o r => .rf (rnO ρ o) r
  | .fc fn caps => .fc fn (caps.map (rnO ρ))
  | c => c
def rnS (ρ : List (Nat × Nat)) : SV → SV
  | .one c => .one (rnC ρ c)
  | .ag cs => .ag (cs.map (rnC ρ))
  | .tu xs => .tu (xs.map fun x => (x.1, x.2.map (rnC ρ)))
  | .un => .un
def rnB (ρ : List (Nat × Nat)) : Ob → Ob
  | .cells cs => .cells (cs.map (rnC ρ))
  | q => q
def memB (ob : List (Nat × Ob)) (o : Nat) : Bool := (lookB ob o).isSome
def okC (ob : List (Nat × Ob)) : C → Bool
  | .rf o _ => memB ob o
  | .fc _ caps => caps.all (memB ob)
  | _ => true
def okOb (ob : List (Nat × Ob)) : Ob → Bool
  | .cells cs => cs.all (okC ob)
  | _ => true
def slOK (σ : St) (ρ : List (Nat × Nat)) : List (Nat × SV) → Prop
  | [] => True
  | x :: r => σ.slots x.1 = rnS ρ x.2 ∧ slOK σ ρ r
def obOK (σ : St) (ρ : List (Nat × Nat)) : List (Nat × Ob) → Prop
  | [] => True
  | x :: r => σ.objs (rnO ρ x.1) = some (rnB ρ x.2) ∧ obOK σ ρ r
def Ob.noCells : Ob → Bool
  | .cells _ => false
  | _ => true
def tmB (ρ : List (Nat × Nat)) (sl : List (Nat × SV)) (ob : List (Nat × Ob)) : Bool :=
  (sl.all fun x => x.2.cells.all (okC ob)) && ((ob.all fun x => okOb ob x.2 && ((Nat.ble 1000 x.1 && (Nat.ble 1000 (rnO ρ x.1) || x.2.noCells)) || Nat.beq (rnO ρ x.1) x.1)) && nodB (ob.map fun x => rnO ρ x.1))

theorem lookS_mem {sl : List (Nat × SV)} {t : Nat} : lookS sl t = .un ∨ (t, lookS sl t) ∈ sl := by
  induction sl with
  | nil => exact .inl rfl
  | cons x r ih =>
    by_cases e : t = x.1
    · right; simp only [lookS]; rw [e, Nat.beq_refl, cond_true]; simp
    · simp only [lookS, beq_ne e, cond_false]; exact ih.imp id fun h => by simp [h]
theorem lookB_mem {ob : List (Nat × Ob)} {o : Nat} {q : Ob} (h : lookB ob o = some q) : (o, q) ∈ ob := by
  induction ob with
  | nil => cases h
  | cons x r ih =>
    by_cases e : o = x.1
    · simp only [lookB] at h; rw [e, Nat.beq_refl, cond_true] at h; cases h; rw [e]; simp
    · simp only [lookB, beq_ne e, cond_false] at h; simp [ih h]
theorem slOK_mem {ρ : List (Nat × Nat)} : ∀ {sl : List (Nat × SV)}, slOK σ ρ sl → ∀ x ∈ sl, σ.slots x.1 = rnS ρ x.2
  | [], _, x, hx => by simp at hx
  | y :: r, h, x, hx => by
    rcases List.mem_cons.1 hx with rfl | hx
    · exact h.1
    · exact slOK_mem h.2 x hx
theorem obOK_mem {ρ : List (Nat × Nat)} : ∀ {ob : List (Nat × Ob)}, obOK σ ρ ob → ∀ x ∈ ob, σ.objs (rnO ρ x.1) = some (rnB ρ x.2)
  | [], _, x, hx => by simp at hx
  | y :: r, h, x, hx => by
    rcases List.mem_cons.1 hx with rfl | hx
    · exact h.1
    · exact obOK_mem h.2 x hx
theorem rnS_cells {ρ : List (Nat × Nat)} {s : SV} : (rnS ρ s).cells = s.cells.map (rnC ρ) := by
  cases s with
  | one c => rfl
  | ag cs => rfl
  | un => rfl
  | tu xs =>
    simp only [rnS, SV.cells]
    induction xs with
    | nil => rfl
    | cons x xs ih => simp [ih]
theorem rnS_shape {ρ : List (Nat × Nat)} {s : SV} {u : Value} (h : ShapeOK (rnS ρ s) u) : ShapeOK s u := by
  cases s with
  | one c => exact h
  | ag cs => have h : AggOK (cs.map (rnC ρ)).length u := h; show AggOK cs.length u; simpa using h
  | un => trivial
  | tu xs =>
    obtain ⟨vs, e, h⟩ := h
    refine ⟨vs, e, ?_⟩
    clear e
    induction xs generalizing vs with
    | nil => exact h
    | cons x xs ih =>
      cases vs with
      | nil => exact h.elim
      | cons v vs => exact ⟨by have := h.1; simpa using this, ih vs h.2⟩
/-- The state is told by a template: what it does not list is forgotten. -/
theorem Wk_tmpl [Glob] (ρ : List (Nat × Nat)) {n : Nat} {sl : List (Nat × SV)} {ob : List (Nat × Ob)} (hs : slOK σ ρ sl) (ho : obOK σ ρ ob) (hb : tmB ρ sl ob = true) (hn : σ.n = n) : Wk σ (St.tmpl n sl ob) := by
  intro K w I g tm hi
  obtain ⟨b1, b2⟩ := Bool.and_eq_true_iff.1 hb
  obtain ⟨b2, b3⟩ := Bool.and_eq_true_iff.1 b2
  have hnd := nodB_ok b3
  have inj : ∀ {x y : Nat}, memB ob x = true → memB ob y = true → rnO ρ x = rnO ρ y → x = y := by
    intro x y hx hy he
    obtain ⟨qx, hqx⟩ := Option.isSome_iff_exists.1 hx
    obtain ⟨qy, hqy⟩ := Option.isSome_iff_exists.1 hy
    have mx := lookB_mem hqx
    have my := lookB_mem hqy
    by_cases e : x = y
    · exact e
    · exfalso
      obtain ⟨i, hi'⟩ := List.mem_iff_getElem?.1 mx
      obtain ⟨j, hj'⟩ := List.mem_iff_getElem?.1 my
      have hij : i ≠ j := fun h => by subst h; rw [hi'] at hj'; cases hj'; exact e rfl
      obtain ⟨hli, hie⟩ := List.getElem?_eq_some_iff.1 hi'
      obtain ⟨hlj, hje⟩ := List.getElem?_eq_some_iff.1 hj'
      have hne : ∀ (i j : Nat), i < j → ∀ (x y : Nat), (ob.map fun x => rnO ρ x.1)[i]? = some x → (ob.map fun x => rnO ρ x.1)[j]? = some y → x ≠ y := by
        intro i j hlt x y h1 h2
        obtain ⟨l1, e1⟩ := List.getElem?_eq_some_iff.1 h1
        obtain ⟨l2, e2⟩ := List.getElem?_eq_some_iff.1 h2
        have := (List.pairwise_iff_getElem.1 hnd) i j l1 l2 hlt
        rw [e1, e2] at this
        exact this
      rcases Nat.lt_or_gt_of_ne hij with h | h
      · exact hne i j h _ _ (by simp [hi']) (by simp [hj']) he
      · exact hne j i h _ _ (by simp [hj']) (by simp [hi']) he.symm
  let g' : Gh := ⟨fun o => g.addr (rnO ρ o), fun o => g.base (rnO ρ o), fun o => bif memB ob o then g.L (rnO ρ o) else []⟩
  have hL : ∀ {o b : Nat}, b ∈ g'.L o → memB ob o = true ∧ b ∈ g.L (rnO ρ o) := by
    intro o b hb
    show memB ob o = true ∧ _
    have hb : b ∈ (bif memB ob o then g.L (rnO ρ o) else []) := hb
    cases hm : memB ob o with
    | true => rw [hm] at hb; exact ⟨rfl, hb⟩
    | false => rw [hm] at hb; simp at hb
  have hLm : ∀ {o : Nat}, memB ob o = true → g'.L o = g.L (rnO ρ o) := by
    intro o hm
    show (bif memB ob o then g.L (rnO ρ o) else []) = _
    rw [hm]; rfl
  have hobj : ∀ {o : Nat} {q : Ob}, lookB ob o = some q → σ.objs (rnO ρ o) = some (rnB ρ q) ∧ okOb ob q = true ∧ ((1000 ≤ o ∧ (1000 ≤ rnO ρ o ∨ q.noCells = true)) ∨ rnO ρ o = o) := by
    intro o q h
    have hm := lookB_mem h
    have h2 := List.all_eq_true.1 b2 _ hm
    obtain ⟨h3, h4⟩ := Bool.and_eq_true_iff.1 h2
    refine ⟨obOK_mem ho _ hm, h3, ?_⟩
    rcases Bool.or_eq_true_iff.1 h4 with h | h
    · obtain ⟨k1, k2⟩ := Bool.and_eq_true_iff.1 h
      exact .inl ⟨Nat.le_of_ble_eq_true k1, (Bool.or_eq_true_iff.1 k2).imp Nat.le_of_ble_eq_true fun h => h⟩
    · exact .inr (Nat.eq_of_beq_eq_true h)
  have hsee : ∀ {o : Nat} {r : Rf} {u : Value}, memB ob o = true → seeO w I (g.addr (rnO ρ o)) (g.base (rnO ρ o)) (g.L (rnO ρ o)) (σ.objs (rnO ρ o)) r u → seeO w I (g'.addr o) (g'.base o) (g'.L o) (lookB ob o) r u := by
    intro o r u hm hs
    obtain ⟨q, hq⟩ := Option.isSome_iff_exists.1 hm
    rw [hLm hm, hq]
    rw [(hobj hq).1] at hs
    show see w I (g.addr (rnO ρ o)) (g.base (rnO ρ o)) (g.L (rnO ρ o)) q r u
    have hs : see w I (g.addr (rnO ρ o)) (g.base (rnO ρ o)) (g.L (rnO ρ o)) (rnB ρ q) r u := hs
    cases q with
    | cells cs => exact see_cells (cs := cs.map (rnC ρ)) (by rw [List.length_map]) hs
    | _ => exact hs
  have hcr : ∀ {c : C} {u : Value}, okC ob c = true → CR w I g σ.objs (rnC ρ c) u → CR w I g' (lookB ob) c u := by
    intro c u hk hc
    cases c with
    | rf o r => exact hsee hk hc
    | fc fn caps =>
      obtain ⟨vs, e, ha⟩ := hc
      have key : ∀ (caps : List Nat) (vs : List Value), caps.all (memB ob) = true → All2 (fun o v => seeO w I (g.addr o) (g.base o) (g.L o) (σ.objs o) (.pb 0) v) (caps.map (rnO ρ)) vs → All2 (fun o v => seeO w I (g'.addr o) (g'.base o) (g'.L o) (lookB ob o) (.pb 0) v) caps vs := by
        intro caps
        induction caps with
        | nil => intro vs _ ha; cases vs with
          | nil => trivial
          | cons => exact ha.elim
        | cons o caps ih =>
          intro vs hk ha
          cases vs with
          | nil => exact ha.elim
          | cons v vs =>
            simp only [List.all_cons, Bool.and_eq_true] at hk
            exact ⟨hsee hk.1 ha.1, ih vs hk.2 ha.2⟩
      exact ⟨vs, e, key caps vs hk ha⟩
    | _ => exact hc
  refine ⟨I, g', {
    fr := hi.fr
    size := by rw [hi.size, hn]; rfl
    glob := hi.glob
    imm0 := hi.imm0
    immX := hi.immX
    dis := fun o o' b h1 h2 => inj (hL h1).1 (hL h2).1 (hi.dis _ _ b (hL h1).2 (hL h2).2)
    nod := fun o => by
      show (bif memB ob o then g.L (rnO ρ o) else []).Nodup
      cases memB ob o with
      | true => exact hi.nod _
      | false => exact List.nodup_nil
    own := fun o b hb => ?_
    ext := fun o a ha => ?_
    exB := fun o v hv => ?_
    obj := fun o => ?_
    shape := fun t => ?_
    slot := fun t i c hc => ?_ }⟩
  · obtain ⟨h1, h2⟩ := hL hb
    obtain ⟨q1, q2, q3⟩ := hi.own _ b h2
    refine ⟨q1, q2, ?_⟩
    rcases q3 with h | ⟨a, ha, he⟩
    · exact .inl h
    · obtain ⟨q, hq⟩ := Option.isSome_iff_exists.1 h1
      rcases (hobj hq).2.2 with h | h
      · obtain ⟨_, h | h⟩ := h
        · have := (hi.ext _ a ha).1; omega
        · refine .inl (hi.own_mine (hobj hq).1 (fun cs hcs => ?_) h2)
          cases q with
          | cells cs => cases h
          | _ => cases hcs
      · rw [h] at ha; exact .inr ⟨a, ha, he⟩
  · refine ⟨(hi.ext o a ha).1, fun q hq => ?_⟩
    obtain ⟨h1, _, h2⟩ := hobj hq
    have hlt := (hi.ext o a ha).1
    have he : rnO ρ o = o := h2.resolve_left fun h => by have := h.1; omega
    rw [he] at h1
    obtain ⟨r1, r2, r3, cs, r4⟩ := (hi.ext o a ha).2 _ h1
    refine ⟨by show g.addr (rnO ρ o) = a; rw [he]; exact r1, r2, r3, ?_⟩
    cases q with
    | cells cs => exact ⟨cs, rfl⟩
    | _ => cases r4
  · refine ⟨(hi.exB o v hv).1, fun q hq => ?_⟩
    obtain ⟨h1, _, h2⟩ := hobj hq
    have hlt := (hi.exB o v hv).1
    have he : rnO ρ o = o := h2.resolve_left fun h => by have := h.1; omega
    rw [he] at h1
    show g.base (rnO ρ o) = v
    rw [he]; exact (hi.exB o v hv).2 _ h1
  · show ObR K w I g' (lookB ob) o
    unfold ObR
    cases hq : lookB ob o with
    | none =>
      show (bif memB ob o then g.L (rnO ρ o) else []) = []
      unfold memB; rw [hq]; rfl
    | some q =>
      obtain ⟨h1, h2, _⟩ := hobj hq
      have hm : memB ob o = true := by unfold memB; rw [hq]; rfl
      have hob := hi.obj (rnO ρ o)
      unfold ObR at hob
      rw [h1] at hob
      cases q with
      | dead => rw [hLm hm]; exact hob
      | rows e t dp xs => rw [hLm hm]; exact hob
      | fz t dp xs => rw [hLm hm]; exact hob
      | cells cs =>
        refine ⟨by rw [hLm hm]; exact hob.1, fun j c hj => ?_⟩
        obtain ⟨u, r1, r2, r3, r4, r5⟩ := hob.2 j (rnC ρ c) (by simp [hj])
        exact ⟨u, r1, r2, r3, r4, hcr (List.all_eq_true.1 h2 c (List.mem_of_getElem? hj)) r5⟩
  · show ShapeOK (lookS sl t) _
    rcases lookS_mem (sl := sl) (t := t) with h | h
    · rw [h]; trivial
    · have := slOK_mem hs _ h
      have hsh := hi.shape t
      simp only at this
      rw [this] at hsh
      exact rnS_shape hsh
  · have hc : (lookS sl t).cells[i]? = some c := hc
    rcases lookS_mem (sl := sl) (t := t) with h | h
    · rw [h] at hc; simp [SV.cells] at hc
    · have := slOK_mem hs _ h
      simp only at this
      obtain ⟨u, h1, h2⟩ := hi.slot t i (rnC ρ c) (by rw [this, rnS_cells]; simp [hc])
      exact ⟨u, h1, hcr (List.all_eq_true.1 (List.all_eq_true.1 b1 _ h) c (List.mem_of_getElem? hc)) h2⟩

/-! ### Loops, bounds -/
theorem W_loopT [Glob] {c : Code} {Q : Exit → St → Prop} {T : Type} (J : T → St) (R : T → Prop) (m : T → Nat) (i0 : T) (h0 : R i0) (hw : Wk σ (J i0)) (round : ∀ i, R i → W P c (Exit.thenS (fun σ' => ∃ i', m i' < m i ∧ R i' ∧ Wk σ' (J i')) Q) (J i)) : W P (.loop c) Q σ := by
  refine W.weak hw ?_
  refine W_loop (fun k σ => ∃ i, m i = k ∧ R i ∧ σ = J i) (m i0) ⟨i0, rfl, h0, rfl⟩ ?_
  rintro k σ ⟨i, rfl, hr, rfl⟩
  refine W_weakQ ((round i hr).mono fun e σ1 h => ?_)
  cases e with
  | normal => obtain ⟨i', h1, h2, h3⟩ := h; exact ⟨J i', h3, m i', h1, i', rfl, h2, rfl⟩
  | exit id => exact ⟨σ1, Wk.refl _, h⟩
  | goto l => exact ⟨σ1, Wk.refl _, h⟩
  | ret => exact ⟨σ1, Wk.refl _, h⟩
  | panic ch => exact ⟨σ1, Wk.refl _, h⟩
  | outgrown => exact ⟨σ1, Wk.refl _, h⟩
theorem RT.short {w : World} {S : Nat → Prop} {e : Ty} {xs : List e.T} {us : List Value} (h : RT w S (.sl e) xs us) : xs.length ≤ maxLen := by
  obtain ⟨A, cap, _, h1, h2, _⟩ := h
  exact Nat.le_trans h1 h2
theorem W_lenS [Glob] {c : Code} {Q : Exit → St → Prop} (t i : Nat) {e : Ty} {xs : List e.T} (hs : (σ.slots t).cells[i]? = some (.d (.sl e) xs)) (h : xs.length ≤ maxLen → W P c Q σ) : W P c Q σ := by
  intro K w I g tm hi
  obtain ⟨u, _, hr⟩ := hi.slot t i _ hs
  exact h (RT.short (e := e) hr) K w I g tm hi
theorem W_lenO [Glob] {c : Code} {Q : Exit → St → Prop} (o : Nat) {e : TypeId} {t : Ty} {dp : Bool} {xs : List t.T} (ho : σ.objs o = some (.rows e t dp xs)) (h : xs.length ≤ maxLen → W P c Q σ) : W P c Q σ := by
  intro K w I g tm hi
  exact h (RT.short (hi.rows ho).rt) K w I g tm hi
theorem W_lenB [Glob] {c : Code} {Q : Exit → St → Prop} (o j : Nat) {cs : List C} {e : Ty} {xs : List e.T} (ho : σ.objs o = some (.cells cs)) (hj : cs[j]? = some (.d (.sl e) xs)) (h : xs.length ≤ maxLen → W P c Q σ) : W P c Q σ := by
  intro K w I g tm hi
  obtain ⟨u, _, _, _, _, hr⟩ := (hi.cells ho).2 j _ hj
  exact h (RT.short (e := e) hr) K w I g tm hi
end Go.LX

