/- append, as an operation; owned slices kept for reading alone. -/
import Derived.Test.YtbebnlhgnbnjoaaAxLit
set_option linter.unusedVariables false
set_option linter.unusedSimpArgs false
namespace Go.AX

variable {P : Program} {σ : St}

theorem Inv.at {K : Ctx} {w : World} {I : Nat → Prop} {g : Gh} {tm : Array Value} (h : Inv K w I g σ tm) {p : Pl} {c : C} (hp : σ.absAt p = some c) : ∃ u, realAt w g tm p = some u ∧ CR w I g σ tm p c u := by
  unfold St.absAt at hp
  unfold realAt
  split
  · rename_i hb
    rw [if_pos hb] at hp
    cases hbx : σ.boxes p.id with
    | none => simp [hbx] at hp
    | some cs =>
      simp [hbx] at hp
      obtain ⟨u', h1, _, _, _, h5⟩ := h.boxc p.id cs hbx p.c _ hp
      have : p = ⟨true, p.id, p.c⟩ := by cases p; simp_all
      exact ⟨u', h1, by rw [this]; exact h5⟩
  · rename_i hb
    rw [if_neg hb] at hp
    obtain ⟨u', h1, h2⟩ := h.slot p.id p.c _ hp
    have : p = ⟨false, p.id, p.c⟩ := by cases p; simp_all
    exact ⟨u', h1, by rw [this]; exact h2⟩

theorem append_core {K : Ctx} {w : World} {I : Nat → Prop} {g : Gh} {tm : Array Value} (hi : Inv K w I g σ tm) {p : Pl} {t : Nat} {ty ty' e : TypeId} {size bytes : Nat} {rs rs' : List (List D)} {zs : List Value} {v u : Value} {S : Nat → Prop}
    (hty : P.underlying ty = some (.slice e)) (hsz : sizeB P e = some size) (hb : (P.info? e).map (·.bytes) = some bytes) (hz : zeroB P e = some zs) (hzl : zs.length = size) (hpos : 0 < size)
    (hp : σ.absAt p = some (.ow ⟨e, none⟩ size 0 rs)) (hv : realAt w g tm p = some v) (hsrc : Rd w S (.sl rs') u) (hok : (∀ b, S b → I b) ∨ ∀ r ∈ rs', ∀ d ∈ r, ∃ v, d = .v v) (hl : ∀ r ∈ rs', r.length = size)
    (hbd : (rs.length + rs'.length) * bytes ≤ 140737488355328) (hml : rs.length + rs'.length ≤ maxLen) (ht : t < σ.n) (h0 : ((σ.drop p).slots t).noOw = true) :
    ∃ v' w', (Builtin.append_ #[ty, ty] ty' #[v, u]).run P w = .ok v' w' ∧ ∃ g', Inv K w' I g' ((σ.drop p).put t (.one (.ow ⟨e, none⟩ size 0 (rs ++ rs')))) (tm.setIfInBounds t v') := by
  obtain ⟨v0, hv0, hcr⟩ := hi.at hp
  rw [hv] at hv0
  obtain rfl := Option.some.inj hv0
  obtain ⟨xs, L', ho, hrl, hoc, hL⟩ := hcr.1
  obtain ⟨hall, rfl⟩ := hoc.im_iff
  rw [List.append_nil] at hL
  obtain ⟨v', w', news, hrun, ho', hg, hall', hblk⟩ := run_appendB (P := P) (ty' := ty') hty hsz hb hz hzl hpos (I := I) ho hsrc hok hl hbd hml
  refine ⟨v', w', hrun, ?_⟩
  have hd := hi.drop hp
  have hfree : ∀ b, v.ownBlock = some b → Free K w I { g with L := fun q => if q = p then [] else g.L q } (σ.drop p) b := by
    intro b hb
    have hbL : b ∈ g.L p := by rw [hL]; simp [hb]
    obtain ⟨o1, o2, o3⟩ := hi.own p b hbL
    refine ⟨o1, fun q hq => ?_, fun o ho he => ?_, o3⟩
    · simp only at hq
      split at hq
      · cases hq
      · rename_i hne; exact hne (hi.dis q p b hq hbL)
    · have hos : (σ.boxes o).isSome = true := by
        have := ho
        rw [St.drop, map_setP_isSome] at this
        exact this
      exact (hi.boxi o hos).2.1 p (he ▸ hbL)
  have hnew : Free K w I { g with L := fun q => if q = p then [] else g.L q } (σ.drop p) w.heap.size := by
    refine ⟨fun hI => ?_, fun q hq => ?_, fun o ho he => ?_, fun hlt => ?_⟩
    · have := (hi.immX _ hI).1; omega
    · have := (hd.own q _ hq).2.1; omega
    · have := (hd.boxi o ho).2.2.1; omega
    · have := hi.fr.size; omega
  have hs := hd.scribble hfree hg
  have hkeep : ∀ b, I b → ∀ o, w'.cell? ⟨b, o, none⟩ = w.cell? ⟨b, o, none⟩ := by
    intro b hb' o
    refine World.cell?_of_block (a := ⟨b, o, none⟩) (hg.block b (hi.immX b hb').1 fun e => ?_)
    exact (hfree b e.symm).i hb'
  have hroc : ROT (RO w' I 0) w' I e size (rs ++ rs') v' v'.ownBlock.toList := by
    refine ⟨xs ++ news, [], by rw [List.length_append]; exact ho', ?_, ?_, by simp⟩
    · intro r hr
      rcases List.mem_append.1 hr with hr | hr
      · exact hrl r hr
      · exact hl r hr
    · rw [List.flatten_append]
      exact OC.im ((hall.append hall').mono fun a _ b h => h.kept (fun _ h => h) hkeep)
  obtain ⟨g', hfin⟩ := hs.take (t := t) (by rw [show (σ.drop p).n = σ.n from map_setP_n ..]; exact ht) h0 (L := v'.ownBlock.toList) (by cases v'.ownBlock <;> simp) (fun b hb => by
    have hb' : v'.ownBlock = some b := by simpa using hb
    have hf : Free K w I { g with L := fun q => if q = p then [] else g.L q } (σ.drop p) b := by
      rcases hblk with h | h
      · exact hfree b (h ▸ hb')
      · rw [hb'] at h; cases h; exact hnew
    exact ⟨hf.i, hf.l, hf.o, hf.k⟩) (e := ⟨e, none⟩) rfl hroc
  exact ⟨g', hfin⟩

theorem map_kill_noRef {p : Pl} {s : SV} (h : s.noRef p = true) : s.map (C.kill p) = s := by
  have key : ∀ c : C, c.refs p = false → C.kill p c = c := by
    intro c hc
    cases c with
    | vw q wh rs => simp only [C.refs] at hc; simp only [C.kill]; rw [if_neg]; rintro rfl; rw [Pl.beq_iff.2 rfl] at hc; cases hc
    | ep q i j => simp only [C.refs] at hc; simp only [C.kill]; rw [if_neg]; rintro rfl; rw [Pl.beq_iff.2 rfl] at hc; cases hc
    | vp q cs => simp only [C.refs] at hc; simp only [C.kill]; rw [if_neg]; rintro rfl; rw [Pl.beq_iff.2 rfl] at hc; cases hc
    | _ => rfl
  have keyL : ∀ cs : List C, (cs.all fun c => !c.refs p) = true → cs.map (C.kill p) = cs := by
    intro cs hcs
    induction cs with
    | nil => rfl
    | cons c cs ih =>
      simp only [List.all_cons, Bool.and_eq_true] at hcs
      rw [List.map_cons, key c (by simpa using hcs.1), ih hcs.2]
  cases s with
  | one c => simp only [SV.noRef, SV.cells, List.all_cons, List.all_nil, Bool.and_true] at h; simp only [SV.map]; rw [key c (by simpa using h)]
  | ag cs => simp only [SV.map]; rw [keyL cs h]
  | un => rfl
  | tu xs =>
    simp only [SV.map]
    congr 1
    have h' : ((xs.flatMap (·.2)).all fun c => !c.refs p) = true := h
    clear h
    induction xs with
    | nil => rfl
    | cons x xs ih =>
      rw [List.flatMap_cons, List.all_append, Bool.and_eq_true] at h'
      rw [List.map_cons, keyL _ h'.1, ih h'.2]
theorem map_kill_box {p : Pl} {cs : Option (List C)} (h : cellsNoRef p cs = true) : cs.map (·.map (C.kill p)) = cs := by
  cases cs with
  | none => rfl
  | some cs =>
    have := map_kill_noRef (p := p) (s := .ag cs) h
    simp only [SV.map, SV.ag.injEq] at this
    simp [this]

/-- What p = slot x owns is dropped: the views of it, in the slots X, too. -/
theorem drop_slot {x : Nat} {e : Tag} {size k : Nat} {rs : List (List D)} (hx : σ.slots x = .one (.ow e size k rs)) (hnr : NoRefs ⟨false, x, 0⟩ [x] σ) : σ.drop ⟨false, x, 0⟩ = σ.put x (.one .any) := by
  unfold St.drop St.setP St.put St.map
  rw [if_neg (by simp)]
  congr 1
  · funext t
    by_cases ht : t = x
    · subst ht; simp [hx, SV.map, SV.setC]
    · simp only [beq_ne ht, cond_false]
      exact map_kill_noRef (hnr.1 t (by simpa using ht))
  · funext o
    exact map_kill_box (hnr.2 o)
theorem drop_slot2 {x q : Nat} {e : Tag} {size k : Nat} {rs rs' : List (List D)} (hq : σ.slots q = .one (.ow e size k rs)) (hx : σ.slots x = .one (.vw ⟨false, q, 0⟩ true rs')) (hnr : NoRefs ⟨false, q, 0⟩ [x] σ) : σ.drop ⟨false, q, 0⟩ = (σ.put q (.one .any)).put x (.one .any) := by
  have hne : x ≠ q := fun h => by rw [h, hq] at hx; cases hx
  unfold St.drop St.setP St.put St.map
  rw [if_neg (by simp)]
  congr 1
  · funext t
    by_cases hx' : t = x
    · subst hx'
      simp [beq_ne hne, hx, SV.map, C.kill]
    · simp only [beq_ne hx', cond_false]
      by_cases ht : t = q
      · subst ht; simp [hq, SV.map, SV.setC]
      · simp only [beq_ne ht, cond_false]
        exact map_kill_noRef (hnr.1 t (by simpa using hx'))
  · funext o
    exact map_kill_box (hnr.2 o)

/-- Is it all read alone? -/
def C.isIm : C → Bool
  | .d _ | .nl => true
  | _ => false


theorem op_append {o : Oper} {t x size bytes : Nat} {ty e : TypeId} {y : Operand} {rs rs' : List (List D)} {c : C} {zs : List Value} {N : St → Prop} (ho : o.op = .call { callee := .builtin .append, args := #[.tmp x, y], argTypes := #[ty, ty] }) (hd : o.dst = some t) (ht : Nat.blt t σ.n = true) (hty : P.underlying ty = some (.slice e)) (hsz : sizeB P e = some size) (hb : (P.info? e).map (·.bytes) = some bytes) (hz : zeroB P e = some zs) (hzl : Nat.beq zs.length size = true) (hpos : Nat.blt 0 size = true) {p : Pl} (hp : σ.absAt p = some (.ow ⟨e, none⟩ size 0 rs)) (hv : ∀ K w I g tm, Inv K w I g σ tm → realAt w g tm p = some (tm.getD x undef)) (h0 : ((σ.drop p).slots t).noOw = true)
    (hy : σ.ev y = .one c) (hc : c.rows = some rs') (hok : c.isIm = true ∨ ∀ r ∈ rs', ∀ d ∈ r, ∃ v, d = .v v) (hl : ∀ r ∈ rs', r.length = size)
    (hbd : (rs.length + rs'.length) * bytes ≤ 140737488355328) (hml : rs.length + rs'.length ≤ maxLen) (hN : N ((σ.drop p).put t (.one (.ow ⟨e, none⟩ size 0 (rs ++ rs'))))) : OpW P o N σ := by
  intro K w I g tm hi
  obtain ⟨pl, hr, _, _⟩ := hi.ev_one hy
  have hsrc : ∃ S, Rd w S (.sl rs') (Act.eval ⟨tm, []⟩ y) ∧ ((∀ b, S b → I b) ∨ ∀ r ∈ rs', ∀ d ∈ r, ∃ v, d = .v v) := by
    rcases hok with h | h
    · cases c with
      | d x =>
        cases x <;> simp [C.rows] at hc
        subst hc
        exact ⟨I, hr, .inl fun _ h => h⟩
      | nl => simp [C.rows] at hc; subst hc; exact ⟨I, Rd.sl_iff.2 ⟨none, 0, hr, Nat.le_refl _, Nat.zero_le _, fun i row hr => by simp at hr⟩, .inl fun _ h => h⟩
      | _ => simp [C.isIm] at h
    · obtain ⟨S, hS⟩ := hr.slice hc
      exact ⟨S, hS, .inr h⟩
  obtain ⟨S, hS, hok'⟩ := hsrc
  obtain ⟨v', w', hrun, g', hfin⟩ := append_core (P := P) hi (ty' := o.type) hty hsz hb hz (Nat.eq_of_beq_eq_true hzl) (Nat.le_of_ble_eq_true hpos) hp (hv K w I g tm hi) hS hok' hl hbd hml (Nat.le_of_ble_eq_true ht) h0
  have hrun' : (execOp (Act.eval ⟨tm, []⟩) o).run P w = .ok (.value v') w' := by
    have e1 : Act.eval ⟨tm, []⟩ (.tmp x) = tm.getD x undef := rfl
    obtain ⟨vx, hvx⟩ : ∃ vx, vx = tm.getD x undef := ⟨_, rfl⟩
    rw [← hvx] at hrun e1
    simp [execOp, ho, resolve, invoke, builtin, e1, hrun]
  rw [hrun']
  simp only [Oper.upon, Act.put, hd]
  exact ⟨trivial, _, I, g', hN, hfin⟩

/-- The slot owns what is appended to. -/
theorem op_append_ow {o : Oper} {t x size bytes : Nat} {ty e : TypeId} {y : Operand} {rs rs' : List (List D)} {c : C} {zs : List Value} {N : St → Prop} (ho : o.op = .call { callee := .builtin .append, args := #[.tmp x, y], argTypes := #[ty, ty] }) (hd : o.dst = some t) (ht : Nat.blt t σ.n = true) (hty : P.underlying ty = some (.slice e)) (hsz : sizeB P e = some size) (hb : (P.info? e).map (·.bytes) = some bytes) (hz : zeroB P e = some zs) (hzl : Nat.beq zs.length size = true) (hpos : Nat.blt 0 size = true) (hx : σ.slots x = .one (.ow ⟨e, none⟩ size 0 rs)) (hnr : NoRefs ⟨false, x, 0⟩ [x] σ) (h0 : ((σ.put x (.one .any)).slots t).noOw = true)
    (hy : σ.ev y = .one c) (hc : c.rows = some rs') (hok : c.isIm = true ∨ ∀ r ∈ rs', ∀ d ∈ r, ∃ v, d = .v v) (hl : ∀ r ∈ rs', r.length = size)
    (hbd : (rs.length + rs'.length) * bytes ≤ 140737488355328) (hml : rs.length + rs'.length ≤ maxLen) (hN : N ((σ.put x (.one .any)).put t (.one (.ow ⟨e, none⟩ size 0 (rs ++ rs'))))) : OpW P o N σ := by
  have e0 := drop_slot hx hnr
  refine op_append ho hd ht hty hsz hb hz hzl hpos (p := ⟨false, x, 0⟩) (by simp [St.absAt, hx, SV.cells]) (fun K w I g tm hi => ?_) (by rw [e0]; exact h0) hy hc hok hl hbd hml (by rw [e0]; exact hN)
  have hs := hi.shape x
  rw [hx] at hs
  have h1 : (tm.getD x undef).oneCell' = true := hs
  unfold realAt
  rw [if_neg (by simp)]
  revert h1
  cases tm.getD x undef <;> simp [Value.oneCell', valCells, Value.cells]
/-- The slot holds what another slot owns. -/
theorem op_append_vw {o : Oper} {t x size bytes : Nat} {ty e : TypeId} {y : Operand} {rs rs' : List (List D)} {c : C} {zs : List Value} {N : St → Prop} (ho : o.op = .call { callee := .builtin .append, args := #[.tmp x, y], argTypes := #[ty, ty] }) (hd : o.dst = some t) (ht : Nat.blt t σ.n = true) (hty : P.underlying ty = some (.slice e)) (hsz : sizeB P e = some size) (hb : (P.info? e).map (·.bytes) = some bytes) (hz : zeroB P e = some zs) (hzl : Nat.beq zs.length size = true) (hpos : Nat.blt 0 size = true) {q : Nat} (hq : σ.slots q = .one (.ow ⟨e, none⟩ size 0 rs)) (hx : σ.slots x = .one (.vw ⟨false, q, 0⟩ true rs)) (hnr : NoRefs ⟨false, q, 0⟩ [x] σ) (h0 : (((σ.put q (.one .any)).put x (.one .any)).slots t).noOw = true)
    (hy : σ.ev y = .one c) (hc : c.rows = some rs') (hok : c.isIm = true ∨ ∀ r ∈ rs', ∀ d ∈ r, ∃ v, d = .v v) (hl : ∀ r ∈ rs', r.length = size)
    (hbd : (rs.length + rs'.length) * bytes ≤ 140737488355328) (hml : rs.length + rs'.length ≤ maxLen) (hN : N (((σ.put q (.one .any)).put x (.one .any)).put t (.one (.ow ⟨e, none⟩ size 0 (rs ++ rs'))))) : OpW P o N σ := by
  have e0 := drop_slot2 hq hx hnr
  refine op_append ho hd ht hty hsz hb hz hzl hpos (p := ⟨false, q, 0⟩) (by simp [St.absAt, hq, SV.cells]) (fun K w I g tm hi => ?_) (by rw [e0]; exact h0) hy hc hok hl hbd hml (by rw [e0]; exact hN)
  obtain ⟨pl, hr, _, _⟩ := hi.ev_one (x := .tmp x) (c := .vw ⟨false, q, 0⟩ true rs) hx
  exact (hr.2 rfl).1

/-- Nothing is appended to: a new slice. -/
theorem op_append_nl {o : Oper} {t size bytes : Nat} {ty e : TypeId} {x y : Operand} {rs' : List (List D)} {c : C} {zs : List Value} {N : St → Prop}
    (ho : o.op = .call { callee := .builtin .append, args := #[x, y], argTypes := #[ty, ty] }) (hd : o.dst = some t) (ht : Nat.blt t σ.n = true) (h0 : (σ.slots t).noOw = true)
    (hty : P.underlying ty = some (.slice e)) (hsz : sizeB P e = some size) (hb : (P.info? e).map (·.bytes) = some bytes) (hz : zeroB P e = some zs) (hzl : Nat.beq zs.length size = true) (hpos : Nat.blt 0 size = true)
    (hx : σ.ev x = .one .nl) (hy : σ.ev y = .one c) (hc : c.rows = some rs') (hok : c.isIm = true ∨ ∀ r ∈ rs', ∀ d ∈ r, ∃ v, d = .v v) (hl : ∀ r ∈ rs', r.length = size)
    (hbd : rs'.length * bytes ≤ 140737488355328) (hml : rs'.length ≤ maxLen) (hN : N (σ.put t (.one (.ow ⟨e, none⟩ size 0 rs')))) : OpW P o N σ := by
  intro K w I g tm hi
  obtain ⟨pl, hr, _, _⟩ := hi.ev_one hy
  have hsrc : ∃ S, Rd w S (.sl rs') (Act.eval ⟨tm, []⟩ y) ∧ ((∀ b, S b → I b) ∨ ∀ r ∈ rs', ∀ d ∈ r, ∃ v, d = .v v) := by
    rcases hok with h | h
    · cases c with
      | d x =>
        cases x <;> simp [C.rows] at hc
        subst hc
        exact ⟨I, hr, .inl fun _ h => h⟩
      | nl => simp [C.rows] at hc; subst hc; exact ⟨I, Rd.sl_iff.2 ⟨none, 0, hr, Nat.le_refl _, Nat.zero_le _, fun i row hr => by simp at hr⟩, .inl fun _ h => h⟩
      | _ => simp [C.isIm] at h
    · obtain ⟨S, hS⟩ := hr.slice hc
      exact ⟨S, hS, .inr h⟩
  obtain ⟨S, hS, hok'⟩ := hsrc
  obtain ⟨pl', hr', _, _⟩ := hi.ev_one hx
  have ex : Act.eval ⟨tm, []⟩ x = .slice none 0 0 := hr'
  obtain ⟨v', w', news, hrun, ho', hg, hall', hblk⟩ := run_appendB (P := P) (ty' := o.type) hty hsz hb hz (Nat.eq_of_beq_eq_true hzl) (Nat.le_of_ble_eq_true hpos) (I := I) (v := .slice none 0 0) (rs := []) (World.ownsRow_nil w 0 e size) hS hok' hl (by simpa using hbd) (by simpa using hml)
  have hrun' : (execOp (Act.eval ⟨tm, []⟩) o).run P w = .ok (.value v') w' := by
    simp [execOp, ho, resolve, invoke, builtin, ex, hrun]
  rw [hrun']
  simp only [Oper.upon, Act.put, hd]
  have hs := hi.scribble (b0 := none) (fun _ h => by cases h) hg
  have hkeep : ∀ b, I b → ∀ o, w'.cell? ⟨b, o, none⟩ = w.cell? ⟨b, o, none⟩ := fun b hb' o => World.cell?_of_block (a := ⟨b, o, none⟩) (hg.block b (hi.immX b hb').1 (by simp [Value.ownBlock]))
  have hroc : ROT (RO w' I 0) w' I e size rs' v' v'.ownBlock.toList := by
    refine ⟨news, [], by simpa using ho', hl, OC.im (hall'.mono fun a _ b h => h.kept (fun _ h => h) hkeep), by simp⟩
  obtain ⟨g', hfin⟩ := hs.take (Nat.le_of_ble_eq_true ht) h0 (L := v'.ownBlock.toList) (by cases v'.ownBlock <;> simp) (fun b hb => by
    have hb' : v'.ownBlock = some b := by simpa using hb
    have hbe : b = w.heap.size := by
      rcases hblk with h | h
      · rw [hb'] at h; simp [Value.ownBlock] at h
      · rw [hb'] at h; cases h; rfl
    subst hbe
    refine ⟨fun hI => ?_, fun q hq => ?_, fun o ho he => ?_, fun hlt => ?_⟩
    · have := (hi.immX _ hI).1; omega
    · have := (hi.own q _ hq).2.1; omega
    · have := (hi.boxi o ho).2.2.1; omega
    · have := hi.fr.size; omega) (e := ⟨e, none⟩) rfl hroc
  exact ⟨trivial, _, I, g', hN, hfin⟩

/-! ### What a call makes, kept for reading alone -/
def C.frz : C → C
  | .ow _ _ _ rs => .d (.sl rs)
  | c => c
theorem frz_cells (s : SV) : (s.map C.frz).cells = s.cells.map C.frz := SV.map_cells _ _
theorem FnOK.frz {f : FuncId} {al : Bool} {args : List (Bool × List D)} {r : SV} (h : FnOK P f al args r) : FnOK P f al args (r.map C.frz) := by
  intro w S vals hS hargs
  refine (h w S vals hS hargs).mono ?_
  rintro e w' ⟨v, rfl, hw, J, L, hJ, h1, h2, h3, hs, hc⟩
  refine ⟨v, rfl, hw, fun b => J b ∨ ∃ i, b ∈ L i, fun _ => [], ?_, (by intro i j b hb; cases hb), fun _ => List.nodup_nil, (by intro i b hb; cases hb), hs.map, fun i c hi => ?_⟩
  · rintro b (hb | ⟨i, hb⟩)
    · exact hJ b hb
    · exact ⟨(h3 i b hb).2.2, fun hlt => absurd (h3 i b hb).2.1 (by omega)⟩
  · rw [frz_cells, List.getElem?_map, Option.map_eq_some_iff] at hi
    obtain ⟨c0, h0, rfl⟩ := hi
    obtain ⟨u, hu, hr⟩ := hc i c0 h0
    refine ⟨u, hu, ?_⟩
    cases c0 with
    | d x => exact Rd.sub hr fun b hb => .inl hb
    | nl => exact hr
    | ow e size k rs => exact (ROT.rd hr.1).sub fun b hb => hb.imp id fun hb => ⟨i, hb⟩
    | any => trivial
    | _ => exact hr.elim

end Go.AX
