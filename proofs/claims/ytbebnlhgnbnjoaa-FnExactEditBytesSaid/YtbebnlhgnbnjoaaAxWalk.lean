/- Walking a region that draws its order; guards that are decided. -/
import Derived.Test.YtbebnlhgnbnjoaaAxDraw
namespace Go.AX

variable {P : Program} {σ : St}

/-! ### Views let go -/
def memP (p : Pl) : List Pl → Bool
  | [] => false
  | q :: r => p.beq q || memP p r
theorem memP_iff {p : Pl} {l : List Pl} : memP p l = true ↔ p ∈ l := by
  induction l with
  | nil => simp [memP]
  | cons q r ih => simp [memP, ih, Pl.beq_iff]
def C.kil (ps : List Pl) : C → C
  | .vw q wh rs => bif memP q ps then .any else .vw q wh rs
  | .ep q i j => bif memP q ps then .any else .ep q i j
  | .vp q cs => bif memP q ps then .any else .vp q cs
  | c => c
def St.kil (σ : St) (ps : List Pl) : St := σ.map (C.kil ps)

theorem C.kil_ow {ps : List Pl} {c : C} {e : Tag} {size k : Nat} {rs : List (List D)} : C.kil ps c = .ow e size k rs ↔ c = .ow e size k rs := by
  cases c <;> simp only [C.kil] <;> (try rfl) <;> (cases memP _ ps <;> simp)
theorem Wk_kil (ps : List Pl) : Wk σ (σ.kil ps) := by
  intro K w I g tm h
  have habs : ∀ p e size k rs, (σ.kil ps).absAt p = some (.ow e size k rs) ↔ σ.absAt p = some (.ow e size k rs) := by
    intro p e size k rs
    rw [St.kil, absAt_map]
    simp only [Option.map_eq_some_iff, C.kil_ow]
    exact ⟨fun ⟨c, h1, h2⟩ => h2 ▸ h1, fun h => ⟨_, h, rfl⟩⟩
  refine ⟨I, g, h.retell rfl rfl (fun t => (h.shape t).map) (fun o ho => by simpa [St.kil, St.map] using ho) ?_ (fun _ hb => hb) (fun _ hb => .inl hb) h.dis h.nod (fun p b hb => ⟨(h.own p b hb).1, p, hb⟩) fun p hp => h.nil p fun e size k rs hh => hp e size k rs ((habs ..).2 hh)⟩
  intro p c' hp
  rw [St.kil, absAt_map, Option.map_eq_some_iff] at hp
  obtain ⟨c, h1, rfl⟩ := hp
  refine ⟨c, h1, fun u hu hcr => ?_⟩
  cases c with
  | d x => exact hcr
  | ow e size k rs => exact hcr
  | nl => exact hcr
  | any => trivial
  | bp o c => exact ⟨hcr.1, by simpa [St.kil, St.map] using hcr.2⟩
  | fc fn caps => obtain ⟨vs, a1, a2⟩ := hcr; exact ⟨vs, a1, a2.mono fun o _ v hv => ⟨hv.1, by simpa [St.kil, St.map] using hv.2⟩⟩
  | vw q wh rs =>
    simp only [C.kil]
    cases memP q ps with
    | true => trivial
    | false => exact ⟨hcr.1, fun hw => by obtain ⟨a1, e, size, k, a2⟩ := hcr.2 hw; exact ⟨a1, e, size, k, (habs ..).2 a2⟩⟩
  | ep q i j =>
    simp only [C.kil]
    cases memP q ps with
    | true => trivial
    | false => obtain ⟨b, n, cap, e, size, k, rs, a1, a2, a3, a4⟩ := hcr; exact ⟨b, n, cap, e, size, k, rs, a1, (habs ..).2 a2, a3, a4⟩
  | vp q cs =>
    simp only [C.kil]
    cases memP q ps with
    | true => trivial
    | false => exact hcr
theorem kil_noRef {ps : List Pl} {p : Pl} (hp : p ∈ ps) (X : List Nat) : NoRefs p X (σ.kil ps) := by
  have hm := memP_iff.2 hp
  have key : ∀ c : C, (C.kil ps c).refs p = false := by
    intro c
    cases c with
    | vw q wh rs => simp only [C.kil]; cases hq : memP q ps with
      | true => rfl
      | false =>
        simp only [cond_false, C.refs]
        cases hb : q.beq p with
        | false => rfl
        | true => rw [Pl.beq_iff.1 hb, hm] at hq; cases hq
    | ep q i j => simp only [C.kil]; cases hq : memP q ps with
      | true => rfl
      | false =>
        simp only [cond_false, C.refs]
        cases hb : q.beq p with
        | false => rfl
        | true => rw [Pl.beq_iff.1 hb, hm] at hq; cases hq
    | vp q cs => simp only [C.kil]; cases hq : memP q ps with
      | true => rfl
      | false =>
        simp only [cond_false, C.refs]
        cases hb : q.beq p with
        | false => rfl
        | true => rw [Pl.beq_iff.1 hb, hm] at hq; cases hq
    | _ => rfl
  refine ⟨fun t _ => ?_, fun o => ?_⟩
  · show ((σ.slots t).map (C.kil ps)).noRef p = true
    unfold SV.noRef
    rw [SV.map_cells]
    refine List.all_eq_true.2 fun c hc => ?_
    obtain ⟨c0, _, rfl⟩ := List.mem_map.1 hc
    rw [key]; rfl
  · show cellsNoRef p ((σ.boxes o).map _) = true
    cases σ.boxes o with
    | none => rfl
    | some cs =>
      refine List.all_eq_true.2 fun c hc => ?_
      obtain ⟨c0, _, rfl⟩ := List.mem_map.1 hc
      rw [key]; rfl

/-! ### The walk -/
/-- Does i stand before j? (Looked for along the edges, f steps far.) -/
def reach (ops : List Oper) : Nat → Nat → Nat → Bool
  | 0, _, _ => false
  | f + 1, i, j => match ops[j]? with
    | some o => o.after.toList.any fun e => Region.binds .any e && (Nat.beq e.on i || (Nat.blt i e.on && reach ops f i e.on))
    | none => false
theorem reach_tr {ops : List Oper} : ∀ {f i j : Nat}, reach ops f i j = true → Tr ops.toArray i j := by
  intro f
  induction f with
  | zero => intro i j h; cases h
  | succ f ih =>
    intro i j h
    unfold reach at h
    cases ho : ops[j]? with
    | none => simp [ho] at h
    | some o =>
      simp only [ho] at h
      obtain ⟨e, he, h⟩ := List.any_eq_true.1 h
      obtain ⟨h1, h2⟩ := Bool.and_eq_true_iff.1 h
      have ho' : ops.toArray[j]? = some o := by simpa using ho
      have he' : e ∈ o.after := by simpa using he
      rcases Bool.or_eq_true_iff.1 h2 with h2 | h2
      · rw [← Nat.eq_of_beq_eq_true h2]
        exact .base ho' he' h1
      · exact .step ho' he' h1 (ih (Bool.and_eq_true_iff.1 h2).2)
def chkOne (ops : List Oper) (j : Nat) (e : Eff) : Nat → List Eff → Bool
  | _, [] => true
  | i, f :: r => (!confl f e || reach ops ops.length i j) && chkOne ops j e (i + 1) r
/-- Each meets the earlier ones only along edges. -/
def chkGo (ops : List Oper) : Nat → List Eff → List Eff → Bool
  | _, _, [] => true
  | j, prev, e :: es => chkOne ops j e 0 prev && chkGo ops (j + 1) (prev ++ [e]) es
def edgeGo : Nat → List Oper → Bool
  | _, [] => true
  | i, o :: l => (o.after.toList.all fun e => Nat.blt e.on i) && edgeGo (i + 1) l
def frOK (ps : List Pl) (es : List Eff) : Bool := es.all fun f => f.fr.all fun y => memP y.1 ps && es.all fun e => e.okFr y

theorem edgeGo_spec : ∀ {l : List Oper} {i : Nat}, edgeGo i l = true → ∀ (j : Nat) (o : Oper), l[j]? = some o → ∀ e ∈ o.after, e.on < i + j
  | [], _, _, j, o, h, _, _ => by simp at h
  | o :: l, i, h, j, o', hj, e, he => by
    obtain ⟨h1, h2⟩ := Bool.and_eq_true_iff.1 h
    cases j with
    | zero =>
      simp at hj
      subst hj
      have := List.all_eq_true.1 h1 e (by simpa using he)
      have := Nat.le_of_ble_eq_true this
      omega
    | succ j =>
      have := edgeGo_spec h2 j o' (by simpa using hj) e he
      omega
theorem chkOne_spec {ops : List Oper} {j : Nat} {e : Eff} : ∀ {r : List Eff} {i : Nat}, chkOne ops j e i r = true → ∀ (k : Nat) (f : Eff), r[k]? = some f → confl f e = true → Tr ops.toArray (i + k) j
  | [], _, _, k, f, hk, _ => by simp at hk
  | f :: r, i, h, k, f', hk, hc => by
    obtain ⟨h1, h2⟩ := Bool.and_eq_true_iff.1 h
    cases k with
    | zero =>
      simp at hk
      subst hk
      rw [hc] at h1
      simp at h1
      exact reach_tr h1
    | succ k =>
      have := chkOne_spec h2 k f' (by simpa using hk) hc
      rwa [show i + (k + 1) = i + 1 + k by omega]
theorem chkGo_spec {ops : List Oper} : ∀ {es : List Eff} {j : Nat} {prev : List Eff}, prev.length = j → chkGo ops j prev es = true →
    ∀ (a b : Nat) (f e : Eff), (prev ++ es)[a]? = some f → (prev ++ es)[b]? = some e → a < b → j ≤ b → confl f e = true → Tr ops.toArray a b
  | [], j, prev, hl, _, a, b, f, e, _, hb, _, hjb, _ => by
    rw [List.append_nil] at hb
    have := (List.getElem?_eq_some_iff.1 hb).1
    omega
  | e0 :: es, j, prev, hl, h, a, b, f, e, ha, hb, hab, hjb, hc => by
    obtain ⟨h1, h2⟩ := Bool.and_eq_true_iff.1 h
    by_cases hbj : b = j
    · subst hbj
      have he : e = e0 := by
        rw [List.getElem?_append_right (by omega), hl, Nat.sub_self] at hb
        simpa using hb.symm
      subst he
      rw [List.getElem?_append_left (by omega)] at ha
      have := chkOne_spec h1 a f ha hc
      simpa using this
    · refine chkGo_spec (prev := prev ++ [e0]) (j := j + 1) (by simp [hl]) h2 a b f e ?_ ?_ hab (by omega) hc
      · simpa using ha
      · simpa using hb

def zipIt : Nat → List Oper → List Eff → List It
  | i, o :: l, e :: es => ⟨i, o, e⟩ :: zipIt (i + 1) l es
  | _, _, _ => []
def ChainE (P : Program) (ops : Array Oper) (n : Nat) : List Oper → List Eff → St → St → Prop
  | [], [], σ, σ' => σ' = σ
  | o :: l, e :: es, σ, σ' => Loc P ops o e n ∧ Agr σ e ∧ ChainE P ops n l es (σ.over e.us e.ub) σ'
  | _, _, _, _ => False
/-- What is left of a region, from the state that the text's order reaches. -/
def RW (P : Program) (ops : List Oper) (Q : Exit → St → Prop) (ps : List Pl) (acc : List Eff) (l : List Oper) (σ : St) : Prop :=
  ∃ es σ', ChainE P ops.toArray σ.n l es σ σ' ∧ Q .normal σ' ∧ chkGo ops 0 [] (acc ++ es) = true ∧ frOK ps (acc ++ es) = true

theorem ChainE.zip {ops : Array Oper} {n : Nat} : ∀ {l : List Oper} {es : List Eff} {i : Nat} {σ σ' : St}, ChainE P ops n l es σ σ' → Chain P ops n (zipIt i l es) σ σ' ∧ l.length = es.length
  | [], [], _, _, _, h => ⟨h, rfl⟩
  | o :: l, e :: es, i, _, _, h => ⟨⟨h.1, h.2.1, (ChainE.zip h.2.2).1⟩, by simp [(ChainE.zip (i := 0) h.2.2).2]⟩
  | [], _ :: _, _, _, _, h => h.elim
  | _ :: _, [], _, _, _, h => h.elim
theorem zip_get : ∀ {l : List Oper} {es : List Eff} {i k : Nat} {x : It}, (zipIt i l es)[k]? = some x → x.i = i + k ∧ l[k]? = some x.o ∧ es[k]? = some x.e
  | [], _, _, _, _, h => by simp [zipIt] at h
  | _ :: _, [], _, _, _, h => by simp [zipIt] at h
  | o :: l, e :: es, i, 0, x, h => by simp [zipIt] at h; subst h; simp
  | o :: l, e :: es, i, k + 1, x, h => by
    obtain ⟨h1, h2, h3⟩ := zip_get (l := l) (es := es) (i := i + 1) (k := k) (by simpa [zipIt] using h)
    exact ⟨by omega, by simpa using h2, by simpa using h3⟩
theorem zip_len : ∀ {l : List Oper} {es : List Eff} {i : Nat}, l.length = es.length → (zipIt i l es).length = l.length
  | [], [], _, _ => rfl
  | o :: l, e :: es, i, h => by simp [zipIt, zip_len (l := l) (es := es) (i := i + 1) (by simpa using h)]
  | [], _ :: _, _, h => by simp at h
  | _ :: _, [], _, h => by simp at h

theorem RW.run {ops : List Oper} {Q : Exit → St → Prop} {ps : List Pl} (h : RW P ops Q ps [] ops σ) (hnr : ∀ p ∈ ps, ∀ X, NoRefs p X σ) (hedge : edgeGo 0 ops = true) (id : Nat) : W P (.region id ops.toArray true) Q σ := by
  intro K w I g tm hi
  obtain ⟨es, σ', hch, hq, hchk, hfr⟩ := h
  obtain ⟨hz, hl⟩ := hch.zip (i := 0)
  refine wp_region_draw fun t => ?_
  have hsch : ∃ md t', Region.schedule (P.follows .mixedOrders) ops.toArray t = Region.linearise.go md ops.toArray ops.toArray.size t' (Array.replicate ops.toArray.size false) [] := by
    unfold Region.schedule Region.linearise
    split
    · exact ⟨_, _, rfl⟩
    · exact ⟨_, _, rfl⟩
  obtain ⟨md, t', hsch⟩ := hsch
  rw [hsch]
  refine wpAny_sound _ _ _ _ _ ?_
  have hi' : Inv K { w with drawn := w.drawn + 1 } I g σ tm := hi.grow ⟨rfl, rfl, rfl, Nat.le_refl _, fun _ _ => rfl⟩
  refine draw_main (FR := es.flatMap (·.fr)) (n := σ.n) hq ?_ K _ _ (zipIt 0 ops es) σ (by rw [zip_len hl]; simp) (by simp) rfl ?_ ?_ ?_ ?_ hz ?_ ?_ _ I g tm hi'
  · intro i o ho e he
    have := edgeGo_spec hedge i o (by simpa using ho) e he
    omega
  · intro i o ho _
    have hlt : i < (zipIt 0 ops es).length := by
      rw [zip_len hl]
      have := (Array.getElem?_eq_some_iff.1 ho).1
      simpa using this
    refine ⟨(zipIt 0 ops es)[i], List.getElem_mem hlt, ?_⟩
    have := (zip_get (List.getElem?_eq_getElem hlt)).1
    omega
  · intro x hx
    obtain ⟨k, hk⟩ := List.mem_iff_getElem?.1 hx
    obtain ⟨h1, h2, h3⟩ := zip_get hk
    have hlt := (List.getElem?_eq_some_iff.1 h2).1
    rw [Nat.zero_add] at h1
    refine ⟨by rw [h1]; simpa using h2, ?_⟩
    rw [h1]
    simp [hlt]
  · rw [List.pairwise_iff_getElem]
    intro a b ha hb hab
    obtain ⟨a1, a2, a3⟩ := zip_get (List.getElem?_eq_getElem ha)
    obtain ⟨b1, b2, b3⟩ := zip_get (List.getElem?_eq_getElem hb)
    refine ⟨by omega, fun hc => ?_⟩
    have := chkGo_spec (prev := []) rfl hchk a b _ _ (by simpa using a3) (by simpa using b3) hab (Nat.zero_le _) hc
    rw [a1, b1]
    simpa using this
  · intro j o ho hj
    have hlt := (Array.getElem?_eq_some_iff.1 ho).1
    simp at hlt
    simp [hlt] at hj
  · intro y hy
    obtain ⟨e, he, hy⟩ := List.mem_flatMap.1 hy
    have h1 := List.all_eq_true.1 hfr e (by simpa using he)
    have h2 := List.all_eq_true.1 h1 y hy
    exact hnr _ (memP_iff.1 (Bool.and_eq_true_iff.1 h2).1) _
  · intro x hx
    obtain ⟨k, hk⟩ := List.mem_iff_getElem?.1 hx
    obtain ⟨_, _, h3⟩ := zip_get hk
    have hxe := List.mem_of_getElem? h3
    refine ⟨fun y hy => List.mem_flatMap.2 ⟨_, hxe, hy⟩, fun y hy => ?_⟩
    obtain ⟨e, he, hy⟩ := List.mem_flatMap.1 hy
    have h1 := List.all_eq_true.1 hfr e (by simpa using he)
    have h2 := List.all_eq_true.1 h1 y hy
    exact List.all_eq_true.1 (Bool.and_eq_true_iff.1 h2).2 _ (by simpa using hxe)

theorem W_draw {id : Nat} {ops : List Oper} {Q : Exit → St → Prop} (hedge : edgeGo 0 ops = true) (h : RW P ops Q [] [] ops σ) : W P (.region id ops.toArray true) Q σ := h.run (fun p hp => by cases hp) hedge id
/-- The same, what views the places ps let go first. -/
theorem W_drawK (ps : List Pl) {id : Nat} {ops : List Oper} {Q : Exit → St → Prop} (hedge : edgeGo 0 ops = true) (h : RW P ops Q ps [] ops (σ.kil ps)) : W P (.region id ops.toArray true) Q σ :=
  W.weak (Wk_kil ps) (h.run (fun _ hp X => kil_noRef hp X) hedge id)

/-! ### Single operations in such a region -/
def opTs : List Operand → List Nat
  | [] => []
  | .tmp t :: r => t :: opTs r
  | _ :: r => opTs r
def opdsOf : Op → List Operand
  | .move x | .assign x | .box _ x | .load _ x | .nilCheck x | .unOp _ _ x | .convert _ _ x | .makeInterface _ x | .fieldAddr _ x _ | .field _ x _ | .extract x _ => [x]
  | .pick c a b => [c, a, b]
  | .build _ ps | .buildSlice _ _ ps => ps.toList.map (·.2)
  | .store _ x y | .binOp _ _ x y _ | .indexAddr _ x y | .index _ x y | .makeSlice _ x y => [x, y]
  | .makeFunc _ a b => a.toList ++ b.toList
  | .slice _ x lo hi mx => x :: (lo.toList ++ hi.toList ++ mx.toList)
  | .call c => (match c.callee with | .value f => [f] | .invoke r _ => [r] | .builtin _ => []) ++ c.args.toList
  | _ => []
def guardT (ops : List Oper) (o : Oper) : List Nat :=
  match o.guard with
  | some (j, _) => match ops[j]? with
    | some o' => o'.dst.toList
    | none => []
  | none => []
def rdS (ops : List Oper) (o : Oper) (σ : St) : List (Nat × SV) := (o.dst.toList ++ (guardT ops o ++ opTs (opdsOf o.op))).map fun t => (t, σ.slots t)
def ptrB : SV → List Nat
  | .one (.bp o _) => [o]
  | .one (.fc _ caps) => caps
  | _ => []
def boxT (o : Oper) (σ : St) : List Nat :=
  match o.op with
  | .box .. | .alloc _ => o.dst.toList
  | .load _ x | .store _ x _ => ptrB (σ.ev x)
  | .call c => match c.callee with
    | .value f => ptrB (σ.ev f)
    | _ => []
  | _ => []
def rdB (o : Oper) (σ : St) : List (Nat × Option (List C)) := (boxT o σ).map fun b => (b, σ.boxes b)

theorem agr_of {us : List Nat} {bs : List Nat} {e : Eff} (h1 : e.rs = us.map fun t => (t, σ.slots t)) (h2 : e.bs = bs.map fun b => (b, σ.boxes b)) : Agr σ e := by
  refine ⟨fun x hx => ?_, fun x hx => ?_⟩
  · rw [h1] at hx; obtain ⟨t, _, rfl⟩ := List.mem_map.1 hx; rfl
  · rw [h2] at hx; obtain ⟨t, _, rfl⟩ := List.mem_map.1 hx; rfl

variable {ops : List Oper} {Q : Exit → St → Prop} {ps : List Pl} {acc : List Eff} {l : List Oper} {o : Oper}

theorem RW_nil (hq : Q .normal σ) (h1 : chkGo ops 0 [] acc = true) (h2 : frOK ps acc = true) : RW P ops Q ps acc [] σ := ⟨[], σ, rfl, hq, by simpa using h1, by simpa using h2⟩
theorem RW_cons {e : Eff} (hl : Loc P ops.toArray o e σ.n) (ha : Agr σ e) (hN : RW P ops Q ps (acc ++ [e]) l (σ.over e.us e.ub)) : RW P ops Q ps acc (o :: l) σ := by
  obtain ⟨es, σ', h1, h2, h3, h4⟩ := hN
  exact ⟨e :: es, σ', ⟨hl, ha, h1⟩, h2, by simpa using h3, by simpa using h4⟩

/-- The state in which an operation is shown: what it reads stands, all else is open. -/
def St.loc (σ : St) (rs : List (Nat × SV)) (bs : List (Nat × Option (List C))) (s0 : Nat → SV) (b0 : Nat → Option (List C)) : St := (St.mk σ.n s0 b0).over rs bs

theorem Loc_of {e : Eff} (hw : ∀ σ0 : St, σ0.n = σ.n → Agr σ0 e → ∀ tm K w I g, Inv K w I g σ0 tm → Region.wanted o (yielded ops.toArray tm) = true)
    (h : ∀ s0 b0, (∀ y ∈ e.fr, NoRefs y.1 y.2 (σ.loc e.rs e.bs s0 b0)) → OpW P o (fun σ' => σ' = (σ.loc e.rs e.bs s0 b0).over e.us e.ub) (σ.loc e.rs e.bs s0 b0)) : Loc P ops.toArray o e σ.n := by
  intro σ0 hn ha hnr K w I g tm hi
  have e0 : σ.loc e.rs e.bs σ0.slots σ0.boxes = σ0 := by
    unfold St.loc
    rw [← hn]
    exact over_self ha
  rw [if_pos (hw σ0 hn ha tm K w I g hi)]
  have := h σ0.slots σ0.boxes (by rw [e0]; exact hnr)
  rw [e0] at this
  exact this K w I g tm hi

theorem wanted_none (hg : o.guard = none) (tm : Array Value) : Region.wanted o (yielded ops.toArray tm) = true := by simp [Region.wanted, hg]

theorem RW_op {us : List (Nat × SV)} {ub : List (Nat × Option (List C))} (hg : o.guard = none)
    (h : ∀ s0 b0, OpW P o (fun σ' => σ' = (σ.loc (rdS ops o σ) (rdB o σ) s0 b0).over us ub) (σ.loc (rdS ops o σ) (rdB o σ) s0 b0))
    (hN : RW P ops Q ps (acc ++ [⟨rdS ops o σ, rdB o σ, us, ub, []⟩]) l (σ.over us ub)) : RW P ops Q ps acc (o :: l) σ :=
  RW_cons (e := ⟨rdS ops o σ, rdB o σ, us, ub, []⟩) (Loc_of (fun _ _ _ tm _ _ _ _ _ => wanted_none hg tm) fun s0 b0 _ => h s0 b0) (agr_of rfl rfl) hN

theorem yielded_of {j d : Nat} {t : Bool} {K : Ctx} {w : World} {I : Nat → Prop} {g : Gh} {tm : Array Value} (hi : Inv K w I g σ tm) (hj : (ops[j]?).bind (·.dst) = some d) (hd : σ.slots d = .one (.d (.v (.bool t)))) (hn : d < σ.n) : yielded ops.toArray tm j = some t := by
  have hv : tm.getD d undef = .bool t := hi.ev_v (x := .tmp d) hd
  have hv' : tm[d]? = some (.bool t) := by
    have : d < tm.size := by rw [hi.size]; exact hn
    rw [Array.getElem?_eq_getElem this]
    simpa [Array.getD_eq_getD_getElem?, this] using hv
  simp [yielded, hj, hv']
theorem guardT_mem {j d : Nat} {pol : Bool} (hg : o.guard = some (j, pol)) (hj : (ops[j]?).bind (·.dst) = some d) : d ∈ guardT ops o := by
  unfold guardT
  rw [hg]
  cases ho : ops[j]? with
  | none => rw [ho] at hj; cases hj
  | some o' => rw [ho] at hj; simp at hj; simp [hj, ho]

theorem RW_opT {us : List (Nat × SV)} {ub : List (Nat × Option (List C))} {j d : Nat} {pol t : Bool} (hg : o.guard = some (j, pol)) (hj : (ops[j]?).bind (·.dst) = some d) (hd : σ.slots d = .one (.d (.v (.bool t)))) (hn : Nat.blt d σ.n = true) (ht : t = pol)
    (h : ∀ s0 b0, OpW P o (fun σ' => σ' = (σ.loc (rdS ops o σ) (rdB o σ) s0 b0).over us ub) (σ.loc (rdS ops o σ) (rdB o σ) s0 b0))
    (hN : RW P ops Q ps (acc ++ [⟨rdS ops o σ, rdB o σ, us, ub, []⟩]) l (σ.over us ub)) : RW P ops Q ps acc (o :: l) σ := by
  refine RW_cons (e := ⟨rdS ops o σ, rdB o σ, us, ub, []⟩) (Loc_of (fun σ0 hn0 ha tm K w I g hi => ?_) fun s0 b0 _ => h s0 b0) (agr_of rfl rfl) hN
  have hd0 : σ0.slots d = .one (.d (.v (.bool t))) := by
    rw [← hd]
    exact ha.1 (d, σ.slots d) (List.mem_map.2 ⟨d, by simp [guardT_mem hg hj], rfl⟩)
  have := yielded_of hi hj hd0 (by rw [hn0]; exact Nat.le_of_ble_eq_true hn)
  simp [Region.wanted, hg, this, ht]
theorem RW_opF {j d e : Nat} {pol t : Bool} (hg : o.guard = some (j, pol)) (hj : (ops[j]?).bind (·.dst) = some d) (hd : σ.slots d = .one (.d (.v (.bool t)))) (hn : Nat.blt d σ.n = true) (ht : t = !pol)
    (he : o.dst = some e) (he1 : Nat.blt e σ.n = true) (he0 : (σ.slots e).noOw = true)
    (hN : RW P ops Q ps (acc ++ [⟨rdS ops o σ, [], [(e, .un)], [], []⟩]) l (σ.put e .un)) : RW P ops Q ps acc (o :: l) σ := by
  refine RW_cons (e := ⟨rdS ops o σ, [], [(e, .un)], [], []⟩) ?_ (agr_of rfl (bs := []) rfl) hN
  intro σ0 hn0 ha _ K w I g tm hi
  have hd0 : σ0.slots d = .one (.d (.v (.bool t))) := by
    rw [← hd]
    exact ha.1 (d, σ.slots d) (List.mem_map.2 ⟨d, by simp [guardT_mem hg hj], rfl⟩)
  have he0' : (σ0.slots e).noOw = true := by
    have := ha.1 (e, σ.slots e) (List.mem_map.2 ⟨e, by simp [he], rfl⟩)
    rw [this]; exact he0
  have hy := yielded_of hi hj hd0 (by rw [hn0]; exact Nat.le_of_ble_eq_true hn)
  rw [if_neg (by simp [Region.wanted, hg, hy, ht])]
  refine ⟨_, I, g, rfl, ?_⟩
  rw [he]
  exact hi.put (by rw [hn0]; exact Nat.le_of_ble_eq_true he1) he0' trivial fun i c hc => by simp [SV.cells] at hc
/-- A guard that is open: both ways. -/
theorem RW_gs {j d : Nat} {pol t : Bool} (_hg : o.guard = some (j, pol)) (_hj : (ops[j]?).bind (·.dst) = some d) (_hd : σ.slots d = .one (.d (.v (.bool t))))
    (h1 : t = pol → RW P ops Q ps acc (o :: l) σ) (h0 : t = (!pol) → RW P ops Q ps acc (o :: l) σ) : RW P ops Q ps acc (o :: l) σ := by
  by_cases ht : t = pol
  · exact h1 ht
  · exact h0 (by cases t <;> cases pol <;> simp_all)

/-! ### The same in the text's order -/
variable {opsA : Array Oper}
theorem WO_gT {j d : Nat} {pol t : Bool} (hg : o.guard = some (j, pol)) (hj : (opsA[j]?).bind (·.dst) = some d) (hd : σ.slots d = .one (.d (.v (.bool t)))) (hn : Nat.blt d σ.n = true) (ht : t = pol) (h : OpW P o (WO P opsA Q l) σ) : WO P opsA Q (o :: l) σ := by
  intro K w I g tm hi
  have hv : tm.getD d undef = .bool t := hi.ev_v (x := .tmp d) hd
  have hv' : tm[d]? = some (.bool t) := by
    have : d < tm.size := by rw [hi.size]; exact Nat.le_of_ble_eq_true hn
    rw [Array.getElem?_eq_getElem this]
    simpa [Array.getD_eq_getD_getElem?, this] using hv
  have hy : yielded opsA tm j = some t := by simp [yielded, hj, hv']
  refine wpList_step fun N hN => ?_
  rw [if_pos (by simp [Region.wanted, hg, hy, ht])]
  refine upon_mono ?_ (fun e a w' h => h.elim) (h K w I g tm hi)
  rintro ⟨tm', d'⟩ w' ⟨hd, σ', I', g', n, r⟩
  obtain rfl : d' = [] := hd
  exact hN _ _ (n K w' I' g' tm' r)
theorem WO_gF {j d e : Nat} {pol t : Bool} (hg : o.guard = some (j, pol)) (hj : (opsA[j]?).bind (·.dst) = some d) (hd : σ.slots d = .one (.d (.v (.bool t)))) (hn : Nat.blt d σ.n = true) (ht : t = !pol)
    (he : o.dst = some e) (he1 : Nat.blt e σ.n = true) (he0 : (σ.slots e).noOw = true) (h : WO P opsA Q l (σ.put e .un)) : WO P opsA Q (o :: l) σ :=
  WO_guardS hg hj hd hn he he1 he0 (fun h1 => absurd (h1.symm.trans ht) (by cases pol <;> simp)) fun _ => h
theorem WO_gs {j d : Nat} {pol t : Bool} (_hg : o.guard = some (j, pol)) (_hj : (opsA[j]?).bind (·.dst) = some d) (_hd : σ.slots d = .one (.d (.v (.bool t))))
    (h1 : t = pol → WO P opsA Q (o :: l) σ) (h0 : t = (!pol) → WO P opsA Q (o :: l) σ) : WO P opsA Q (o :: l) σ := by
  by_cases ht : t = pol
  · exact h1 ht
  · exact h0 (by cases t <;> cases pol <;> simp_all)

theorem over_put {t : Nat} {s : SV} : σ.put t s = σ.over [(t, s)] [] := rfl
theorem over_box {t b : Nat} {s : SV} {cs : List C} : (σ.setBox b cs).put t s = σ.over [(t, s)] [(b, some cs)] := rfl
theorem over_st {b : Nat} {cs : List C} : σ.setBox b cs = σ.over [] [(b, some cs)] := rfl

end Go.AX
