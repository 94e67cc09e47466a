/- copy. -/
import Derived.Test.YtojaiockbpcilaaLxApp
set_option linter.unusedVariables false
set_option linter.unusedSimpArgs false
namespace Go.LX

variable {P : Program} {σ : St}

theorem setL_all {α : Type} : ∀ {ys b : List α} {j : Nat}, j + ys.length ≤ b.length → setL b j ys = b.take j ++ ys ++ b.drop (j + ys.length)
  | [], b, j, _ => by simp [setL]
  | y :: ys, b, j, h => by
    simp only [List.length_cons] at h
    unfold setL
    rw [setL_all (by simp; omega)]
    have e : b.set j y = b.take j ++ (y :: b.drop (j + 1)) := by rw [List.set_eq_take_append_cons_drop, if_pos (by omega)]
    have hl : (b.take j).length = j := by simp; omega
    have e1 : (b.set j y).take (j + 1) = b.take j ++ [y] := by
      rw [e, List.take_append, hl, List.take_of_length_le (by omega), show j + 1 - j = 0 + 1 by omega]; simp
    have e2 : (b.set j y).drop (j + 1 + ys.length) = b.drop (j + (y :: ys).length) := by
      rw [e, List.drop_append, hl, List.drop_eq_nil_of_le (by omega), show j + 1 + ys.length - j = ys.length + 1 by omega, List.drop_succ_cons, List.drop_drop]
      simp only [List.nil_append, List.length_cons]
      congr 1; omega
    rw [e1, e2]; simp
theorem rowsF_nil {w : World} {I : Nat → Prop} {t : Ty} : ∀ {xs : List t.T} {us : List Value} {L : List Nat}, Rows (RR w I false t) xs us L → L = []
  | [], _, _, h => h.2
  | x :: xs, _, _, h => by
    obtain ⟨u1, u2, L1, L2, rfl, rfl, h1, h2⟩ := h
    rw [h1.1, rowsF_nil h2]; rfl
theorem setO_self {o : Nat} {q : Ob} (h : σ.objs o = some q) : σ.setO o q = σ := by
  unfold St.setO
  cases σ with
  | mk n sl ob =>
    congr 1
    funext t
    simp only at h ⊢
    by_cases e : t = o
    · subst e; simp [h]
    · simp [beq_ne e]
/-- What a copy writes: object, place, length. -/
def dstR (ob : Nat → Option Ob) : C → Option (Nat × Nat × Nat)
  | .rf o .ar => match ob o with
    | some (.rows _ _ _ xs) => some (o, 0, xs.length)
    | _ => none
  | .rf o (.sb off len) => some (o, off, len)
  | _ => none
theorem run_copyK {ty ty2 e : TypeId} {size len c n cap : Nat} {o : TypeId} (he : elemB P ty = some e) (hsz : sizeB P e = some size) {A a : Option Addr} {w : World} (hk : min n len = 0) :
    (Builtin.copy_ #[ty, ty2] o #[.slice A len c, .slice a n cap]).run P w = .ok (goInt 0) w := by
  have hu := elemB_ok he
  have hl : ∀ (x : Addr), (loadCells x 0).run P w = .ok #[] w := fun x => by simpa using run_loadCells_list (P := P) w x [] (by simp)
  have hk' : Nat.min n len = 0 := hk
  cases A <;> cases a <;> simp [Builtin.copy_, run_underlying hu, Builtin.lenOf, Builtin.firstCells, run_sizeB hsz, hk', storeCells, hl]
theorem run_copyS {ty ty2 e : TypeId} {size len c n cap b f : Nat} {o : TypeId} (he : elemB P ty = some e) (hsz : sizeB P e = some size) {a : Addr} {w : World} {cs : List Value} (hn : cs.length = min n len * size)
    (hsrc : ∀ j v, cs[j]? = some v → w.cell? (a.add j) = some v) (h : ∀ j, j < cs.length → (w.cell? ⟨b, f + j, none⟩).isSome = true ∧ w.frozen? ⟨b, f + j, none⟩ = false) (h1 : ∀ v ∈ cs, v.oneCell' = true) :
    (Builtin.copy_ #[ty, ty2] o #[.slice (some ⟨b, f, none⟩) len c, .slice (some a) n cap]).run P w = .ok (goInt (min n len : Nat)) (putC w b f cs) := by
  have hu := elemB_ok he
  have hl := run_loadCells_list (P := P) w a cs hsrc
  have hst := run_storeCells_box (P := P) (b := b) (o := f) (vs := cs) (i := 0) (w := w) (fun j hj => by rw [Nat.add_zero]; exact h j hj) h1
  rw [Nat.add_zero] at hst
  have hk' : Nat.min n len = min n len := rfl
  simp [Builtin.copy_, run_underlying hu, Builtin.lenOf, Builtin.firstCells, run_sizeB hsz, hk', ← hn, hl, hst]
theorem op_copy [Glob] {o : Oper} {t' id off len : Nat} {x y : Operand} {ty ty2 e e0 : TypeId} {t : Ty} {cx cy : C} {xs ys : List t.T} {N : St → Prop} (ho : o.op = .call { callee := .builtin .copy, args := #[x, y], argTypes := #[ty, ty2] }) (hd : o.dst = some t') (ht : Nat.blt t' σ.n = true)
    (he : elemB P ty = some e) (hsz : sizeB P e = some t.w) (hx : σ.ev x = .one cx) (hr : dstR σ.objs cx = some (id, off, len)) (hq : σ.objs id = some (.rows e0 t false xs)) (hy : σ.ev y = .one cy) (hs : slC σ.objs cy = some ⟨t, ys⟩) (hk : (t.flat || frzB σ.objs cy) = true)
    (hN : N (σ.over [(t', .one (.d (.i .i64) ((min ys.length len : Nat) : Int)))] [(id, some (.rows e0 t false (xs.take off ++ ys.take (min ys.length len) ++ xs.drop (off + min ys.length len))))])) : OpW P o N σ := by
  intro K w I g tm hi
  have hcx := (hi.ev_one hx).1
  have hoa := hi.rows hq
  have hcy := (hi.ev_one hy).1
  generalize Act.eval ⟨tm, []⟩ x = ux at hcx
  generalize hev : Act.eval ⟨tm, []⟩ y = uy at hcy
  have hevx : ∃ ux', Act.eval ⟨tm, []⟩ x = ux' ∧ CR w I g σ.objs cx ux' := ⟨_, rfl, (hi.ev_one hx).1⟩
  clear hcx
  obtain ⟨ux, hevx, hcx⟩ := hevx
  have hdst : off + len ≤ xs.length ∧ ∃ A c, ux = .slice A len c ∧ (0 < len → ∃ b f cap, g.base id = .slice (some ⟨b, f, none⟩) xs.length cap ∧ A = some ⟨b, f + off * t.w, none⟩) := by
    unfold dstR at hr
    split at hr
    · rename_i o'
      split at hr
      · rename_i e1 t1 dp1 xs1 hq1
        simp only [Option.some.injEq, Prod.mk.injEq] at hr
        obtain ⟨rfl, rfl, rfl⟩ := hr
        rw [hq] at hq1
        cases hq1
        have hu : seeO w I (g.addr o') (g.base o') (g.L o') (σ.objs o') .ar ux := hcx
        rw [hq] at hu
        have hu : ux = g.base o' := hu
        subst hu
        obtain ⟨vs, L', hor, _, _⟩ := hoa
        refine ⟨by omega, ?_⟩
        rcases hor.2 with ⟨hb, hn⟩ | ⟨b, f, cap, cur, hb, _⟩
        · exact ⟨none, 0, by rw [hb, hn], fun h => by omega⟩
        · exact ⟨_, cap, hb, fun _ => ⟨b, f, cap, hb, by simp⟩⟩
      · cases hr
    · rename_i o' off' len'
      simp only [Option.some.injEq, Prod.mk.injEq] at hr
      obtain ⟨rfl, rfl, rfl⟩ := hr
      have hu : seeO w I (g.addr o') (g.base o') (g.L o') (σ.objs o') (.sb off' len') ux := hcx
      rw [hq] at hu
      obtain ⟨A, cap, B, c, h1, h2, h3, _, _, h4⟩ := hu
      refine ⟨h3, B, c, h2, fun h0 => ?_⟩
      obtain ⟨b, f, rfl, rfl⟩ := h4 h0
      exact ⟨b, f, cap, h1, rfl⟩
    · cases hr
  obtain ⟨hle, A, c, rfl, hA⟩ := hdst
  have hsrc : ∃ a cap news, uy = .slice a ys.length cap ∧ Rows (RR w I false t) ys news [] ∧ ((a = none ∧ ys.length = 0) ∨ ∃ a', a = some a' ∧ ∀ j v, news[j]? = some v → w.cell? (a'.add j) = some v) := by
    cases hf : t.flat with
    | true =>
      obtain ⟨a, cap, news, h1, h2, h3⟩ := rt_src (CR.slC hi hcy hs)
      exact ⟨a, cap, news, h1, rows_RR h2 (.inl hf), h3⟩
    | false =>
      rw [hf] at hk
      obtain ⟨a, cap, news, h1, h2, h3⟩ := rt_src (frz_slC hi (by simpa using hk) hcy hs)
      exact ⟨a, cap, news, h1, rows_RR h2 (.inr ⟨rfl, fun _ h => h⟩), h3⟩
  obtain ⟨a, cap, news, rfl, hrows, hcase⟩ := hsrc
  have hdone : ∀ (w' : World) (I' : Nat → Prop) (g' : Gh), (Builtin.copy_ #[ty, ty2] o.type #[.slice A len c, .slice a ys.length cap]).run P w = .ok (goInt (min ys.length len : Nat)) w' →
      Inv K w' I' g' (σ.setO id (.rows e0 t false (xs.take off ++ ys.take (min ys.length len) ++ xs.drop (off + min ys.length len)))) tm →
      o.upon P ⟨tm, []⟩ (fun a w' => a.defers = [] ∧ ∃ σ' I' g', N σ' ∧ Inv K w' I' g' σ' a.tmps) (fun _ _ _ => False) ((execOp (Act.eval ⟨tm, []⟩) o).run P w) := by
    intro w' I' g' hrun hinv
    have : (execOp (Act.eval ⟨tm, []⟩) o).run P w = .ok (.value (goInt (min ys.length len : Nat))) w' := by
      simp [execOp, ho, resolve, invoke, builtin, hevx, hev, hrun]
    rw [this]
    simp only [Oper.upon, Act.put, hd]
    refine ⟨trivial, _, I', g', hN, ?_⟩
    refine hinv.put (s := .one (.d (.i .i64) ((min ys.length len : Nat) : Int))) (u := goInt (min ys.length len : Nat)) (Nat.le_of_ble_eq_true ht) rfl fun i c hc => ?_
    obtain ⟨rfl, rfl⟩ := one_cell hc
    exact ⟨_, rfl, rfl⟩
  rcases Nat.eq_zero_or_pos (min ys.length len) with h0 | hpos
  · refine hdone w I g (by rw [h0]; exact run_copyK he hsz h0) ?_
    have hq' : σ.objs id = some (.rows e0 t false (xs.take off ++ ys.take (min ys.length len) ++ xs.drop (off + min ys.length len))) := by
      rw [h0, hq]; simp
    rw [setO_self hq']; exact hi
  · obtain ⟨b, f, cap', hb, rfl⟩ := hA (by omega)
    obtain ⟨a', rfl, hcells⟩ : ∃ a', a = some a' ∧ ∀ j v, news[j]? = some v → w.cell? (a'.add j) = some v := by
      rcases hcase with ⟨_, h⟩ | h
      · omega
      · exact h
    generalize hkk : min ys.length len = k at hdone hpos
    have hkl : k ≤ len := by omega
    have hky : k ≤ ys.length := by omega
    -- the source's first k rows
    have hys : ys = ys.take k ++ ys.drop k := (List.take_append_drop _ _).symm
    rw [hys] at hrows
    obtain ⟨n1, n2, M1, M2, hn12, hM12, hr1, hr2⟩ := hrows.split
    obtain rfl := rowsF_nil hr1
    have hn1l : n1.length = k * t.w := by
      rw [hr1.len (fun _ _ _ h => h.len), List.length_take]; congr 1; omega
    have hnod := hi.nod id
    obtain ⟨vs0, L', hor, hrow0, hL⟩ := hoa
    rw [hb] at hor
    obtain rfl := rowsF_nil hrow0
    have hxs : xs = xs.take off ++ ((xs.drop off).take k ++ xs.drop (off + k)) := by
      rw [show xs.drop (off + k) = (xs.drop off).drop k by rw [List.drop_drop], List.take_append_drop, List.take_append_drop]
    rw [hxs] at hrow0
    obtain ⟨u1, u23, K1, K23, hu, hK, p1, p23⟩ := hrow0.split
    obtain ⟨u2, u3, K2, K3, rfl, rfl, p2, p3⟩ := p23.split
    obtain rfl := rowsF_nil p1
    obtain rfl := rowsF_nil p2
    obtain rfl := rowsF_nil p3
    have hu1 : u1.length = off * t.w := by
      rw [p1.len (fun _ _ _ h => h.len), List.length_take]; congr 1; omega
    have hu2 : u2.length = k * t.w := by
      rw [p2.len (fun _ _ _ h => h.len), List.length_take, List.length_drop]; congr 1; omega
    have hown : b ∈ g.L id := by rw [hL, hb]; simp [Value.ownBlock]
    have hone : ∀ v ∈ n1, v.oneCell' = true := rows_one (fun _ _ _ h => h.rt.one) hr1
    have hroom : ∀ j, j < n1.length → (w.cell? ⟨b, f + off * t.w + j, none⟩).isSome = true ∧ w.frozen? ⟨b, f + off * t.w + j, none⟩ = false := by
      intro j hj
      have hlt : off * t.w + j < vs0.length := by rw [hu]; simp; omega
      have := hor.cells (off * t.w + j) _ (List.getElem?_eq_getElem hlt)
      rw [← Nat.add_assoc] at this
      exact ⟨by rw [this]; rfl, hor.frozenAt _⟩
    have hsrc1 : ∀ j v, n1[j]? = some v → w.cell? (a'.add j) = some v := fun j v hj => hcells j v (by
      rw [hn12, List.getElem?_append_left (List.getElem?_eq_some_iff.1 hj).1]; exact hj)
    have hrun := run_copyS (P := P) (ty2 := ty2) (o := o.type) (c := c) (n := ys.length) (len := len) (cap := cap) he hsz (by rw [hn1l, hkk]) hsrc1 hroom hone
    rw [hkk] at hrun
    refine hdone _ I (g.setO id (g.addr id) (g.base id) (g.L id)) hrun ?_
    have hown' := ownsR_putC (vs := n1) (j := off * t.w) hor
    obtain ⟨f1, f2, f3, f4, f5, f6, f7⟩ := putC_facts (b := b) (vs := n1) (o := f + off * t.w) (w := w) (fun j hj => (hroom j hj).1)
    generalize putC w b (f + off * t.w) n1 = w' at f1 f2 f3 f4 f5 f6 f7 hown'
    have hgr : Grow w w' fun x => x = b := ⟨f5, f6, f7, by omega, fun x _ hx => f3 x hx⟩
    refine hi.one (T := fun x => x = b) (L := g.L id) (ad := g.addr id) (base := g.base id) hgr (fun x hx => .inl (by rw [hx]; exact hown)) (hi.fr.step hgr fun x hx => by rw [hx]; exact hi.own_mine hq (fun _ h => by cases h) hown)
      (fun _ h => h) (fun x hx => .inl hx) hnod (fun x hx => ⟨by rw [f4]; exact hi.ob_lt hx, .inl hx, (hi.own id x hx).2.2⟩) (fun a ha => absurd ha (hi.noE hq (fun _ h => by cases h) a)) (fun v hv => (hi.exB id v hv).2 _ hq) ?_ fun hk hI => ?_
    · intro r u hs
      rw [hq] at hs
      rw [St.setO_same, Gh.setO_eq.2.1, Gh.setO_eq.2.2]
      exact see_rows (by simp; omega) (fun hd => by cases hd) hs
    · unfold ObR
      rw [St.setO_same]
      show OA w' I false e0 t _ ((g.setO id (g.addr id) (g.base id) (g.L id)).base id) ((g.setO id (g.addr id) (g.base id) (g.L id)).L id)
      rw [Gh.setO_eq.2.1, Gh.setO_eq.2.2, hb]
      have hmid : setL vs0 (off * t.w) n1 = u1 ++ n1 ++ u3 := by
        rw [setL_all (by rw [hu]; simp; omega), hu]
        rw [List.take_append_of_le_length (by omega), List.take_of_length_le (by omega)]
        rw [List.drop_append, List.drop_eq_nil_of_le (by omega), List.nil_append, show off * t.w + n1.length - u1.length = u2.length by omega, List.drop_append, List.drop_length, Nat.sub_self]
        simp
      rw [hmid] at hown'
      have hk2 : ∀ {zs : List t.T} {u : List Value}, Rows (RR w I false t) zs u [] → Rows (RR w' I false t) zs u [] := fun h => h.mono fun x u L _ _ h => ⟨h.1, h.2.kept (fun _ h => h) fun b' hb' f => (hI b' hb').2 f⟩
      refine ⟨u1 ++ n1 ++ u3, [], ?_, ?_, by rw [hL, hb]⟩
      · have : (xs.take off ++ ys.take k ++ xs.drop (off + k)).length = xs.length := by simp; omega
        rw [this]; exact hown'
      · have := ((hk2 p1).append (hk2 hr1)).append (hk2 p3)
        simpa using this
theorem msPd {ob : Nat → Option Ob} {t : Ty} {x y : t.T} (ht : t.one = true) (h : y = x) : msP ob (.d t x) (.d t y) := by subst h; exact asT_d ht
theorem msPo {ob : Nat → Option Ob} {e : TypeId} {t : Ty} {dp : Bool} {xs ys : List t.T} {o : Nat} (hq : ob o = some (.rows e t dp ys)) (h : ys = xs) : msP ob (.own e t dp xs) (.rf o .ar) := by subst h; exact hq
theorem msPn {ob : Nat → Option Ob} {e : TypeId} {t : Ty} {dp : Bool} {xs : List t.T} (h : xs = []) : msP ob (.own e t dp xs) .nl := h
theorem rsOne {ob : Nat → Option Ob} {s : S0} {c : C} (h : msP ob s c) : RsP ob (.one s) [(false, [c])] := h
end Go.LX
