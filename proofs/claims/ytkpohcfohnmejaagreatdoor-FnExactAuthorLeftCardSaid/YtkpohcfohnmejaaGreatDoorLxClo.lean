/- A part of the proof of the statement in the row text. -/
import Derived.Test.YtkpohcfohnmejaaGreatDoorLxNest
/- append with all that a row owns; rows told as owned down to the ground. -/
set_option linter.unusedVariables false
set_option linter.unusedSimpArgs false
namespace Go.LX

variable {P : Program} {σ : St}

/-- A slice that is handed on with all that it owns. -/
def mkDs (ob : Nat → Option Ob) (e : Ty) : C → Option (List e.T)
  | .rf o .ar => match ob o with
    | some (.rows _ e' dp xs) => bif dp || e'.flat then match decEq e' e with
      | isTrue h => castO h xs
      | isFalse _ => none
      else none
    | _ => none
  | .nl => some ([] : List e.T)
  | _ => none
def mkD (ob : Nat → Option Ob) : (t : Ty) → List C → Option t.T
  | .pr a b, cs => match mkD ob a (cs.take a.w), mkD ob b (cs.drop a.w) with
    | some x, some y => some (x, y)
    | _, _ => none
  | .un, [] => some ()
  | .un, _ :: _ => none
  | .i k, [c] => asT ob (.i k) c
  | .u8, [c] => asT ob .u8 c
  | .bo, [c] => asT ob .bo c
  | .st, [c] => asT ob .st c
  | .sl e, [c] => mkDs ob e c
  | _, _ => none
def mkDo : Ty → List C → List Nat
  | .pr a b, cs => mkDo a (cs.take a.w) ++ mkDo b (cs.drop a.w)
  | .sl _, [.rf o .ar] => [o]
  | _, _ => []
def mkDRows (ob : Nat → Option Ob) (t : Ty) : Nat → List C → Option (List t.T)
  | 0, [] => some []
  | 0, _ :: _ => none
  | n + 1, cs => match mkD ob t (cs.take t.w), mkDRows ob t n (cs.drop t.w) with
    | some x, some xs => some (x :: xs)
    | _, _ => none
def mkDRo (t : Ty) : Nat → List C → List Nat
  | 0, _ => []
  | n + 1, cs => mkDo t (cs.take t.w) ++ mkDRo t n (cs.drop t.w)
section
variable {K : Ctx} {w : World} {I : Nat → Prop} {g : Gh} {tm : Array Value}
theorem mkDs_ok [Glob] (hi : Inv K w I g σ tm) {e : Ty} {c : C} {xs : List e.T} {u : Value} (h : CR w I g σ.objs c u) (hc : mkDs σ.objs e c = some xs) : OT w (.sl e) xs [u] ((mkDo (.sl e) [c]).flatMap g.L) ∧ ∀ o ∈ mkDo (.sl e) [c], isRows σ.objs o := by
  unfold mkDs at hc
  split at hc
  · rename_i o
    split at hc
    · rename_i e0 e' dp xs' hq
      cases hb : (dp || e'.flat) with
      | false => rw [hb] at hc; cases hc
      | true =>
        rw [hb] at hc
        simp only [cond_true] at hc
        split at hc
        · rename_i hk _
          subst hk
          cases hc
          have h' : seeO w I (g.addr o) (g.base o) (g.L o) (σ.objs o) .ar u := h
          rw [hq] at h'
          have hu : u = g.base o := h'
          subst hu
          refine ⟨?_, fun x hx => ?_⟩
          · simp only [mkDo, List.flatMap_cons, List.flatMap_nil, List.append_nil]
            refine (OT_OA (I := I)).2 ⟨e0, (hi.rows hq).to ?_⟩
            cases dp <;> first | rfl | exact hb
          · simp only [mkDo, List.mem_singleton] at hx
            subst hx
            exact ⟨_, _, _, _, hq⟩
        · cases hc
    · cases hc
  · cases hc
    have hu : u = .slice none 0 0 := h
    subst hu
    exact ⟨⟨_, 0, [], [], rfl, ownsR_nil w 0 e.w, ⟨rfl, rfl⟩, rfl⟩, fun x hx => by simp [mkDo] at hx⟩
  · cases hc
theorem mkD_ok [Glob] (hi : Inv K w I g σ tm) : ∀ {t : Ty} {cs : List C} {x : t.T} {us : List Value}, mkD σ.objs t cs = some x → us.length = cs.length → (∀ (j : Nat) (c : C), cs[j]? = some c → ∃ u, us[j]? = some u ∧ CR w I g σ.objs c u) → OT w t x us ((mkDo t cs).flatMap g.L) ∧ ∀ o ∈ mkDo t cs, isRows σ.objs o := by
  have one : ∀ {t : Ty} {c : C} {x : t.T} {us : List Value}, t.flat = true → asT σ.objs t c = some x → us.length = [c].length → (∀ (j : Nat) (c' : C), [c][j]? = some c' → ∃ u, us[j]? = some u ∧ CR w I g σ.objs c' u) → OT w t x us [] := by
    intro t c x us hf h hl hc
    obtain ⟨u, hu, hr⟩ := hc 0 c rfl
    match us, hl with
    | [v], _ =>
      simp at hu
      subst hu
      exact RT.ot hf (asT_ok hi hr h)
  intro t
  induction t with
  | pr a b iha ihb =>
    intro cs x us h hl hc
    unfold mkD at h
    split at h
    · rename_i x1 x2 h1 h2
      cases h
      obtain ⟨q1, q2⟩ := iha (us := us.take a.w) h1 (by simp [hl]) fun j c hj => by
        rw [List.getElem?_take] at hj ⊢
        split at hj
        · rename_i hlt; rw [if_pos hlt]; exact hc j c hj
        · cases hj
      obtain ⟨q3, q4⟩ := ihb (us := us.drop a.w) h2 (by simp [hl]) fun j c hj => by rw [List.getElem?_drop] at hj ⊢; exact hc _ c hj
      refine ⟨⟨us.take a.w, us.drop a.w, _, _, (List.take_append_drop _ _).symm, by simp only [mkDo, List.flatMap_append], q1, q3⟩, fun o ho => ?_⟩
      rcases List.mem_append.1 ho with h | h
      · exact q2 o h
      · exact q4 o h
    · cases h
  | un =>
    intro cs x us h hl hc
    cases cs with
    | nil => exact ⟨⟨List.eq_nil_of_length_eq_zero hl, rfl⟩, fun o ho => by simp [mkDo] at ho⟩
    | cons c cs => simp [mkD] at h
  | i k => intro cs x us h hl hc; match cs, h, hl, hc with
    | [c], h, hl, hc => exact ⟨one rfl h hl hc, fun o ho => by simp [mkDo] at ho⟩
  | u8 => intro cs x us h hl hc; match cs, h, hl, hc with
    | [c], h, hl, hc => exact ⟨one rfl h hl hc, fun o ho => by simp [mkDo] at ho⟩
  | bo => intro cs x us h hl hc; match cs, h, hl, hc with
    | [c], h, hl, hc => exact ⟨one rfl h hl hc, fun o ho => by simp [mkDo] at ho⟩
  | st => intro cs x us h hl hc; match cs, h, hl, hc with
    | [c], h, hl, hc => exact ⟨one rfl h hl hc, fun o ho => by simp [mkDo] at ho⟩
  | sl e _ => intro cs x us h hl hc; match cs, h, hl, hc with
    | [c], h, hl, hc =>
      obtain ⟨u, hu, hr⟩ := hc 0 c rfl
      match us, hl with
      | [v], _ =>
        simp at hu
        subst hu
        exact mkDs_ok hi hr h
theorem mkDRows_ok [Glob] (hi : Inv K w I g σ tm) {t : Ty} : ∀ {n : Nat} {cs : List C} {xs : List t.T} {us : List Value}, mkDRows σ.objs t n cs = some xs → us.length = cs.length → (∀ (j : Nat) (c : C), cs[j]? = some c → ∃ u, us[j]? = some u ∧ CR w I g σ.objs c u) →
    xs.length = n ∧ Rows (OT w t) xs us ((mkDRo t n cs).flatMap g.L) ∧ ∀ o ∈ mkDRo t n cs, isRows σ.objs o
  | 0, [], xs, us, h, hl, _ => by cases h; exact ⟨rfl, ⟨List.eq_nil_of_length_eq_zero hl, rfl⟩, fun o ho => by simp [mkDRo] at ho⟩
  | 0, _ :: _, _, _, h, _, _ => by simp [mkDRows] at h
  | n + 1, cs, xs, us, h, hl, hc => by
    unfold mkDRows at h
    split at h
    · rename_i x xs' h1 h2
      cases h
      obtain ⟨q1, q2, q3⟩ := mkDRows_ok hi (us := us.drop t.w) h2 (by simp [hl]) fun j c hj => by rw [List.getElem?_drop] at hj ⊢; exact hc _ c hj
      obtain ⟨p1, p2⟩ := mkD_ok hi (us := us.take t.w) h1 (by simp [hl]) fun j c hj => by
        rw [List.getElem?_take] at hj ⊢
        split at hj
        · rename_i hlt; rw [if_pos hlt]; exact hc j c hj
        · cases hj
      refine ⟨by simp [q1], ⟨us.take t.w, us.drop t.w, _, _, (List.take_append_drop _ _).symm, by simp only [mkDRo, List.flatMap_append], p1, q2⟩, fun o ho => ?_⟩
      rcases List.mem_append.1 ho with h | h
      · exact p2 o h
      · exact q3 o h
    · cases h
end
theorem kills_slots : ∀ {os : List Nat} {σ : St}, (σ.kills os).slots = σ.slots
  | [], _ => rfl
  | o :: os, σ => kills_slots (os := os) (σ := σ.setO o .dead)
theorem kills_ev [Glob] {os : List Nat} (x : Operand) : (σ.kills os).ev x = σ.ev x := by
  cases x <;> simp only [St.ev, kills_slots]
/-- append of written-out cells, with all that they own. -/
theorem op_apD [Glob] {o : Oper} {t' id k wd m : Nat} {x y : Operand} {ty e e' : TypeId} {t : Ty} {bytes : Nat} {cx : C} {cs : List C} {os : List Nat} {xs ys : List t.T} {σ1 : St} {N : St → Prop} (ho : o.op = .call { callee := .builtin .append, args := #[x, y], argTypes := #[ty, ty] }) (hd : o.dst = some t') (ht : Nat.blt t' σ.n = true)
    (hT : tyB P ty e t.w bytes = true) (hx : σ.ev x = .one cx) (hy : σ.ev y = .one (.rf k (.as wd m e'))) (hq : σ.objs k = some (.cells cs)) (hs : mkDRows σ.objs t m cs = some ys) (hos : mkDRo t m cs = os) (hnd : nodB os = true) (hdst : Dst (σ.kills os) e t true cx xs σ1) (hid : newO σ1.objs t' = some id) (hn : σ1.n = σ.n)
    (hbd : (xs.length + ys.length) * bytes ≤ 140737488355328) (hml : xs.length + ys.length ≤ maxLen) (hN : N ((σ1.setO id (.rows e t true (xs ++ ys))).put t' (.one (.rf id .ar)))) : OpW P o N σ := by
  refine OpW_obj (σ' := σ1.setO id (.rows e t true (xs ++ ys))) hd ht hn (fun K w I g tm hi => ?_) hN
  subst hos
  have hnd := nodB_ok hnd
  have hc := (hi.ev_one hy).1
  have hc' : seeO w I (g.addr k) (g.base k) (g.L k) (σ.objs k) (.as wd m e') (Act.eval ⟨tm, []⟩ y) := hc
  rw [hq] at hc'
  obtain ⟨hu, _, _⟩ := hc'
  obtain ⟨_, hbx⟩ := hi.cells hq
  have hl : ∀ (j : Nat) (c : C), cs[j]? = some c → ∃ v, w.cell? ⟨(g.addr k).1, (g.addr k).2 + j, none⟩ = some v ∧ v.oneCell' = true ∧ CR w I g σ.objs c v := fun j c hj => by
    obtain ⟨v, h1, _, h3, _, h5⟩ := hbx j c hj
    exact ⟨v, h1, h3, h5⟩
  obtain ⟨news, hnl, hnews⟩ := agg_of hl cs.length (Nat.le_refl _)
  obtain ⟨h1, h2, h3⟩ := mkDRows_ok hi (us := news) hs hnl fun j c hj => by
    have hlt : j < news.length := by rw [hnl]; exact (List.getElem?_eq_some_iff.1 hj).1
    obtain ⟨_, _, c', q1, q2⟩ := hnews j news[j] (List.getElem?_eq_getElem hlt)
    rw [hj] at q1
    cases q1
    exact ⟨_, List.getElem?_eq_getElem hlt, q2⟩
  obtain ⟨g1, r1, r2, r3, r4, r5, r6⟩ := hi.kills hnd h3
  obtain ⟨g2, L, hi2, hoa, hndL, hfL, hf12⟩ := hdst.ok r1 (r1.ev_one (by rw [kills_ev]; exact hx)).1
  have hfree : ∀ b ∈ (mkDRo t m cs).flatMap g.L, Free K I g1 b := by
    intro b hb
    obtain ⟨q, hq1, hq2⟩ := List.mem_flatMap.1 hb
    obtain ⟨e1, t1, d1, z1, hr⟩ := h3 q hq1
    refine ⟨(hi.own q b hq2).1, fun z hz => ?_, hi.own_mine hr (fun _ h => by cases h) hq2⟩
    by_cases hm : z ∈ mkDRo t m cs
    · rw [r5 z hm] at hz; simp at hz
    · rw [(r4 z hm).1] at hz
      exact hm (hi.dis z q b hz hq2 ▸ hq1)
  obtain ⟨v', w', g', hrun, hinv, hbase⟩ := append_free (P := P) (ty' := o.type) hi2 (newO_ok hid) (tyB_ok hT) hoa hndL (fun b hb => (hfL b hb).1) h2 (flat_nodup hi.dis hi.nod hnd) (fun b hb => ⟨hf12 b (hfree b hb), fun hbL => (hfL b hbL).2 b (hfree b hb) rfl⟩)
    (u := Act.eval ⟨tm, []⟩ y) ⟨_, m, by rw [h1]; exact hu, .inr ⟨_, rfl, fun j v hv => by rw [addr_add]; exact (hnews j v hv).1⟩⟩ hbd hml
  have hrw : OA w' I true e t (xs ++ ys) v' (g'.L id) := by rw [← hbase]; exact hinv.rows (St.setO_same _ _ _)
  refine ⟨v', w', I, g', ?_, hinv, shape_one (hrw.rt.one v' (by simp)) ?_⟩
  · simp [execOp, ho, resolve, invoke, builtin, hrun]
  · show seeO _ _ _ _ _ ((σ1.setO _ _).objs _) _ _
    rw [St.setO_same]
    exact hbase.symm
/-- append of an owned slice's rows, with all that they own. -/
theorem op_apDS [Glob] {o : Oper} {t' id k : Nat} {x y : Operand} {ty e e' : TypeId} {t : Ty} {bytes : Nat} {cx : C} {xs ys : List t.T} {σ1 : St} {N : St → Prop} (ho : o.op = .call { callee := .builtin .append, args := #[x, y], argTypes := #[ty, ty] }) (hd : o.dst = some t') (ht : Nat.blt t' σ.n = true)
    (hT : tyB P ty e t.w bytes = true) (hx : σ.ev x = .one cx) (hy : σ.ev y = .one (.rf k .ar)) (hq : σ.objs k = some (.rows e' t true ys)) (hdst : Dst (σ.kills [k]) e t true cx xs σ1) (hid : newO σ1.objs t' = some id) (hn : σ1.n = σ.n)
    (hbd : (xs.length + ys.length) * bytes ≤ 140737488355328) (hml : xs.length + ys.length ≤ maxLen) (hN : N ((σ1.setO id (.rows e t true (xs ++ ys))).put t' (.one (.rf id .ar)))) : OpW P o N σ := by
  refine OpW_obj (σ' := σ1.setO id (.rows e t true (xs ++ ys))) hd ht hn (fun K w I g tm hi => ?_) hN
  have hu : Act.eval ⟨tm, []⟩ y = g.base k := by
    have hc' : seeO w I (g.addr k) (g.base k) (g.L k) (σ.objs k) .ar (Act.eval ⟨tm, []⟩ y) := (hi.ev_one hy).1
    rw [hq] at hc'; exact hc'
  obtain ⟨vs, L', hor, hrows, hL⟩ := hi.rows hq
  obtain ⟨g1, r1, r2, r3, r4, r5, r6⟩ := hi.kills (os := [k]) (by simp) fun q hq1 => by
    simp only [List.mem_singleton] at hq1
    subst hq1
    exact ⟨_, _, _, _, hq⟩
  obtain ⟨g2, L, hi2, hoa, hndL, hfL, hf12⟩ := hdst.ok r1 (r1.ev_one (by rw [kills_ev]; exact hx)).1
  have hsub : ∀ b ∈ L', b ∈ g.L k := fun b hb => by rw [hL]; simp [hb]
  have hfree : ∀ b ∈ L', Free K I g1 b := by
    intro b hb
    refine ⟨(hi.own k b (hsub b hb)).1, fun z hz => ?_, hi.own_mine hq (fun _ h => by cases h) (hsub b hb)⟩
    by_cases hm : z = k
    · rw [r5 z (by simp [hm])] at hz; simp at hz
    · rw [(r4 z (by simp [hm])).1] at hz
      exact hm (hi.dis z k b hz (hsub b hb))
  have hnod := hi.nod k
  rw [hL] at hnod
  obtain ⟨v', w', g', hrun, hinv, hbase⟩ := append_free (P := P) (ty' := o.type) hi2 (newO_ok hid) (tyB_ok hT) hoa hndL (fun b hb => (hfL b hb).1) hrows (List.nodup_append.1 hnod).2.1 (fun b hb => ⟨hf12 b (hfree b hb), fun hbL => (hfL b hbL).2 b (hfree b hb) rfl⟩)
    (u := Act.eval ⟨tm, []⟩ y) (by
      rw [hu]
      rcases hor.2 with ⟨hb, h0⟩ | ⟨b, f, cap, cur, hb, _⟩
      · exact ⟨none, 0, by rw [hb, h0], .inl ⟨rfl, h0⟩⟩
      · refine ⟨_, cap, hb, .inr ⟨_, rfl, fun j v hv => ?_⟩⟩
        rw [hb] at hor
        rw [addr_add]
        exact hor.cells j v hv) hbd hml
  have hrw : OA w' I true e t (xs ++ ys) v' (g'.L id) := by rw [← hbase]; exact hinv.rows (St.setO_same _ _ _)
  refine ⟨v', w', I, g', ?_, hinv, shape_one (hrw.rt.one v' (by simp)) ?_⟩
  · simp [execOp, ho, resolve, invoke, builtin, hrun]
  · show seeO _ _ _ _ _ ((σ1.setO _ _).objs _) _ _
    rw [St.setO_same]
    exact hbase.symm
/-- Rows that own nothing deeper, told as owned down to the ground. -/
theorem Wk_deep [Glob] {q : Nat} {e : TypeId} {t : Ty} {dp : Bool} {xs : List t.T} (hq : σ.objs q = some (.rows e t dp xs)) (hk : t.flat = true ∨ xs = []) : Wk σ (σ.hand [(q, .own e t true xs)]) := by
  intro K w I g tm hi
  have hoa : OA w I true e t xs (g.base q) (g.L q) := by
    rcases hk with hf | hx
    · exact (hi.rows hq).to (by cases dp <;> simp [hf])
    · subst hx
      obtain ⟨vs, L', ho, hr, hL⟩ := hi.rows hq
      obtain ⟨rfl, rfl⟩ := hr
      exact ⟨[], [], ho, ⟨rfl, rfl⟩, hL⟩
  have hb : ∀ {x : Nat × S0}, x ∈ [(q, S0.own e t true xs)] → x = (q, S0.own e t true xs) := fun h => by simpa using h
  refine ⟨I, _, hi.handed (hs := [(q, .own e t true xs)]) (by simp) (fun x hx => by rw [hb hx]; exact ⟨_, _, _, _, hq, rfl⟩) (Grow.refl _ _) (fun _ h => h) (fun b h => ⟨(hi.immX b h).1, fun _ => .inl h⟩) (fun x => if x = q then g.L q else []) (fun x hx => by rw [hb hx]; simp only [if_true]; exact hoa) (fun x => ?_) (fun x y c hx hy => ?_) (fun x hx c hc => ?_)⟩
  · by_cases ex : x = q
    · simp only [ex, if_true]; exact hi.nod q
    · simp only [ex, if_false]; exact List.nodup_nil
  · by_cases ex : x = q <;> by_cases ey : y = q
    · rw [ex, ey]
    · simp [ey] at hy
    · simp [ex] at hx
    · simp [ex] at hx
  · rw [hb hx] at hc
    simp only [if_true] at hc
    exact ⟨(hi.own q c hc).1, hi.ob_lt hc, fun _ => .inl ⟨(q, S0.own e t true xs), by simp, hc⟩⟩

/-! ### As a walk meets them -/
section
variable {o : Oper} {t' id k bytes : Nat} {x y : Operand} {ty e : TypeId} {t : Ty} {xs ys : List t.T} {N : St → Prop}
theorem apDO [Glob] {j wd m : Nat} {e' : TypeId} {cs : List C} {os : List Nat} (ho : o.op = .call { callee := .builtin .append, args := #[x, y], argTypes := #[ty, ty] }) (hd : o.dst = some t') (ht : Nat.blt t' σ.n = true) (hx : σ.ev x = .one (.rf k .ar)) (hq0 : σ.objs k = some (.rows e t true xs)) (hy : σ.ev y = .one (.rf j (.as wd m e'))) (hj : σ.objs j = some (.cells cs)) (hs : mkDRows σ.objs t m cs = some ys) (hos : mkDRo t m cs = os) (hnd : nodB os = true) (hq : (σ.kills os).objs k = some (.rows e t true xs))
    (hby : bytesB P e = some bytes) (hT : tyB P ty e t.w bytes = true) (hid : newO ((σ.kills os).setO k .dead).objs t' = some id) (hbd : (xs.length + ys.length) * bytes ≤ 140737488355328) (hml : xs.length + ys.length ≤ maxLen)
    (hN : N (σ.over [(t', .one (.rf id .ar))] ([(id, some (.rows e t true (xs ++ ys))), (k, some .dead)] ++ (os.reverse).map fun o => (o, some .dead)))) : OpW P o N σ := by
  refine op_apD ho hd ht hT hx hy hj hs hos hnd (.own hq) hid ?_ hbd hml ?_
  · show (σ.kills os).n = σ.n; rw [kills_over]; rfl
  · have : ((((σ.kills os).setO k .dead).setO id (.rows e t true (xs ++ ys))).put t' (.one (.rf id .ar))) = σ.over [(t', .one (.rf id .ar))] ([(id, some (.rows e t true (xs ++ ys))), (k, some .dead)] ++ (os.reverse).map fun o => (o, some .dead)) := by
      rw [kills_over, ← List.append_nil [(t', SV.one (C.rf id Rf.ar))], ← over_over]; rfl
    rw [this]; exact hN
theorem apDN [Glob] {j wd m : Nat} {e' : TypeId} {cs : List C} {os : List Nat} (ho : o.op = .call { callee := .builtin .append, args := #[x, y], argTypes := #[ty, ty] }) (hd : o.dst = some t') (ht : Nat.blt t' σ.n = true) (hx : σ.ev x = .one .nl) (he : elemB P ty = some e) (hty : tyOf P 9 e = some t) (hy : σ.ev y = .one (.rf j (.as wd m e'))) (hj : σ.objs j = some (.cells cs)) (hs : mkDRows σ.objs t m cs = some ys) (hos : mkDRo t m cs = os) (hnd : nodB os = true)
    (hby : bytesB P e = some bytes) (hT : tyB P ty e t.w bytes = true) (hid : newO (σ.kills os).objs t' = some id) (hbd : ys.length * bytes ≤ 140737488355328) (hml : ys.length ≤ maxLen)
    (hN : N (σ.over [(t', .one (.rf id .ar))] ([(id, some (.rows e t true ys))] ++ (os.reverse).map fun o => (o, some .dead)))) : OpW P o N σ := by
  refine op_apD (xs := []) ho hd ht hT hx hy hj hs hos hnd .nl hid ?_ (by simpa using hbd) (by simpa using hml) ?_
  · rw [kills_over]; rfl
  · have : (((σ.kills os).setO id (.rows e t true ([] ++ ys))).put t' (.one (.rf id .ar))) = σ.over [(t', .one (.rf id .ar))] ([(id, some (.rows e t true ys))] ++ (os.reverse).map fun o => (o, some .dead)) := by
      rw [kills_over, ← List.append_nil [(t', SV.one (C.rf id Rf.ar))], ← over_over]; rfl
    rw [this]; exact hN
theorem apDS [Glob] {j : Nat} {e' : TypeId} (ho : o.op = .call { callee := .builtin .append, args := #[x, y], argTypes := #[ty, ty] }) (hd : o.dst = some t') (ht : Nat.blt t' σ.n = true) (hx : σ.ev x = .one (.rf k .ar)) (hq0 : σ.objs k = some (.rows e t true xs)) (hy : σ.ev y = .one (.rf j .ar)) (hj : σ.objs j = some (.rows e' t true ys)) (hq : (σ.kills [j]).objs k = some (.rows e t true xs))
    (hby : bytesB P e = some bytes) (hT : tyB P ty e t.w bytes = true) (hid : newO ((σ.kills [j]).setO k .dead).objs t' = some id) (hbd : (xs.length + ys.length) * bytes ≤ 140737488355328) (hml : xs.length + ys.length ≤ maxLen)
    (hN : N (σ.over [(t', .one (.rf id .ar))] [(id, some (.rows e t true (xs ++ ys))), (k, some .dead), (j, some .dead)])) : OpW P o N σ := by
  refine op_apDS ho hd ht hT hx hy hj (.own hq) hid ?_ hbd hml ?_
  · rfl
  · exact hN
end
end Go.LX

/- Function values: made, called; boxes that stand fixed from now on. -/
set_option linter.unusedVariables false
set_option linter.unusedSimpArgs false
namespace Go.LX

variable {P : Program} {σ : St}

theorem ARs.app {w : World} {I : Nat → Prop} : ∀ {as bs : List SA} {us vs : List Value} {L M : List Nat} {B C : List (Nat × Nat × Nat)}, ARs w I as us L B → ARs w I bs vs M C → ARs w I (as ++ bs) (us ++ vs) (L ++ M) (B ++ C)
  | [], _, [], _, _, _, _, _, h, h' => by obtain ⟨rfl, rfl⟩ := h; exact h'
  | a :: as, _, u :: us, _, _, _, _, _, h, h' => by
    obtain ⟨L1, L2, B1, B2, rfl, rfl, h1, h2⟩ := h
    exact ⟨L1, L2 ++ _, B1, B2 ++ _, List.append_assoc .., List.append_assoc .., h1, h2.app h'⟩
  | [], _, _ :: _, _, _, _, _, _, h, _ => h.elim
  | _ :: _, _, [], _, _, _, _, _, h, _ => h.elim
def capA (caps : List (Σ t : Ty, t.T)) : List SA := caps.map fun c => .pd c.1 c.2
theorem capA_ok {w : World} {I S : Nat → Prop} (hS : ∀ b, I b → S b) : ∀ {caps : List (Σ t : Ty, t.T)} {vs : List Value}, All2 (fun c v => PD w I c.1 c.2 0 v) caps vs → ARs w S (capA caps) vs [] []
  | [], [], _ => ⟨rfl, rfl⟩
  | c :: cs, v :: vs, h => ⟨[], [], [], [], rfl, rfl, ⟨rfl, rfl, h.1.kept hS fun _ _ _ => rfl⟩, capA_ok hS h.2⟩
  | [], _ :: _, h => h.elim
  | _ :: _, [], h => h.elim
theorem run_callVal {o : Oper} {f : FuncId} {x : Operand} {xs : List Operand} {tys : Array TypeId} {vs : List Value} (ho : o.op = .call { callee := .value x, args := xs.toArray, argTypes := tys }) (hf : fnB P f = true) {tm : Array Value} (hx : Act.eval ⟨tm, []⟩ x = .func (.func f) #[] vs.toArray) (w : World) :
    (execOp (Act.eval ⟨tm, []⟩) o).run P w = .ok (.enter f (xs.map (Act.eval ⟨tm, []⟩) ++ vs).toArray) w := by
  unfold fnB at hf
  split at hf
  · rename_i fn hq
    obtain ⟨h1, h2⟩ := Bool.and_eq_true_iff.1 hf
    have hbn : ¬ fn.body = none := by intro h; rw [h] at h1; cases h1
    have hnm' : ¬ fn.name = "runtime.NumGoroutine" := by simpa using h2
    simp [execOp, ho, resolve, hx, Deferred.ofValue, invoke, callFunc, hq, hnm', hbn]
  · cases hf
/-- A function's value is called, handed data alone. -/
theorem op_callV [Glob] {o : Oper} {d : Option Nat} {f : FuncId} {x : Operand} {xs : List Operand} {tys : Array TypeId} {args post : List SA} {caps : List (Σ t : Ty, t.T)} {res : RS} {id : Nat} {N : St → Prop} (a : Bool) (hF : FnC P f (args ++ capA caps) post res) (ho : o.op = .call { callee := .value x, args := xs.toArray, argTypes := tys }) (hd : o.dst = d) (ht : dstB σ.n d = true) (hf : fnB P f = true)
    (hx : σ.ev x = .one (.sem (clS f caps))) (hargs : dPs a σ.objs args (xs.map σ.ev)) (hcl : (!a || res.cells.all S0.closed) = true) (hid : newR σ.objs d res.cells.length = some id) (hN : N ((enC id res.cells σ).putD d (res.svN id))) : OpW P o N σ := by
  intro K w I g tm hi
  obtain ⟨_, vs, hvx, hcap⟩ : Sem0 (clS f caps) ∧ clS f caps w I (Act.eval ⟨tm, []⟩ x) := (hi.ev_one hx).1
  rw [run_callVal ho hf hvx]
  simp only [Oper.upon]
  have hS : ∃ S : Nat → Prop, (∀ b, S b → b < w.heap.size) ∧ (∀ b, I b → S b) ∧ (a = true → ∀ o b, b ∈ g.L o → S b) ∧ (a = false → S = I) := by
    cases a with
    | true => exact ⟨fun b => b < w.heap.size, fun _ h => h, fun b hb => (hi.immX b hb).1, fun _ o b hb => hi.ob_lt hb, (fun h => by cases h)⟩
    | false => exact ⟨I, fun b hb => (hi.immX b hb).1, fun _ h => h, (fun h => by cases h), fun _ => rfl⟩
  obtain ⟨S, hS1, hS2, hS3, hS4⟩ := hS
  refine (hF w S _ [] [] ⟨hS1, hi.glob.kept hS2 fun _ _ _ => rfl⟩ ((dPs_ok hi hS2 hS3 hargs).app (capA_ok hS2 hcap)) (by simp) (fun b hb => by simp at hb)).mono ?_
  rintro e w' ⟨v, rfl, hfc, I', L', Lr, hI1, hI2, hpost, hres, hnd, hown⟩
  have hgr : Grow w w' fun _ => False := ⟨hfc.os, hfc.tape, hfc.output, hfc.size, fun b hb _ => hfc.old b hb (by simp) (by simp)⟩
  have hi1 := hi.scrib hgr fun _ h => h.elim
  obtain ⟨_, hnr, _⟩ := List.nodup_append.1 hnd
  have key : ∃ I2, Inv K w' I2 g σ tm ∧ RR0 w' I2 res v Lr ∧ ∀ b ∈ Lr, Free K I2 g b := by
    have hnew : ∀ b ∈ Lr, ¬ I' b ∧ w.heap.size ≤ b := fun b hb => by
      obtain ⟨q1, _, _, q4⟩ := hown b (by simp [hb])
      exact ⟨q1, Nat.le_of_not_lt fun hlt => by have := q4 hlt; simp at this⟩
    cases a with
    | true =>
      refine ⟨I, hi1, ⟨hres.1, hres.2.free (by simpa using hcl)⟩, fun b hb => free_new hi (hnew b hb).2⟩
    | false =>
      have hSI := hS4 rfl
      subst hSI
      refine ⟨I', hi1.widen hI1 fun b hb => ?_, hres, fun b hb => ?_⟩
      · obtain ⟨q1, q2⟩ := hI2 b hb
        by_cases hlt : b < w.heap.size
        · rcases q2 hlt with h | h
          · exact .inl h
          · simp at h
        · exact .inr ⟨free_new hi (Nat.le_of_not_lt hlt), q1⟩
      · obtain ⟨q1, q2⟩ := hnew b hb
        have := free_new hi q2
        exact ⟨q1, this.l, this.m⟩
  obtain ⟨I2, hi2, hr2, hf2⟩ := key
  obtain ⟨g', hfin⟩ := hi2.res hr2 hnr hf2 (newR_ok hid) ht
  cases d with
  | none => simp only [Act.put, hd]; exact ⟨trivial, _, _, _, hN, hfin⟩
  | some t => simp only [Act.put, hd]; exact ⟨trivial, _, _, _, hN, hfin⟩
theorem callV [Glob] {o : Oper} {d : Option Nat} {f : FuncId} {x : Operand} {xs : List Operand} {tys : Array TypeId} {args post : List SA} {caps : List (Σ t : Ty, t.T)} {res : RS} {id : Nat} {N : St → Prop} (a : Bool) (hF : FnC P f (args ++ capA caps) post res) (ho : o.op = .call { callee := .value x, args := xs.toArray, argTypes := tys }) (hd : o.dst = d) (ht : dstB σ.n d = true) (hf : fnB P f = true)
    (hx : σ.ev x = .one (.sem (clS f caps))) (hargs : dPs a σ.objs args (xs.map σ.ev)) (hcl : (!a || res.cells.all S0.closed) = true) (hid : newR σ.objs d res.cells.length = some id) (hN : N (σ.over (dstU d (res.svN id)) (obL id res.cells))) : OpW P o N σ :=
  op_callV a hF ho hd ht hf hx hargs hcl hid (by rw [enC_over, putD_over]; exact hN)

/-! ### Boxes that stand fixed -/
def fxC (o : Nat) (t : Ty) (x : t.T) : C → C
  | .rf o' (.pb c) => bif Nat.beq o' o then .pd t x c else .rf o' (.pb c)
  | .rf o' r => bif Nat.beq o' o then .any else .rf o' r
  | .fc fn caps => bif memH caps o then .any else .fc fn caps
  | c => c
def fxS (o : Nat) (t : Ty) (x : t.T) : SV → SV
  | .one c => .one (fxC o t x c)
  | .ag cs => .ag (cs.map (fxC o t x))
  | .tu xs => .tu (xs.map fun y => (y.1, y.2.map (fxC o t x)))
  | .un => .un
def fxB (o : Nat) (t : Ty) (x : t.T) : Ob → Ob
  | .cells cs => .cells (cs.map (fxC o t x))
  | q => q
/-- The box o stands fixed and holds x. -/
def St.fix (σ : St) (o : Nat) (t : Ty) (x : t.T) : St :=
  ⟨σ.n, fun s => fxS o t x (σ.slots s), fun o' => bif Nat.beq o' o then some .dead else match σ.objs o' with
    | some q => some (fxB o t x q)
    | none => none⟩
theorem fxS_cells {o : Nat} {t : Ty} {x : t.T} {s : SV} : (fxS o t x s).cells = s.cells.map (fxC o t x) := by
  cases s with
  | one c => rfl
  | ag cs => rfl
  | un => rfl
  | tu xs =>
    simp only [fxS, SV.cells]
    induction xs with
    | nil => rfl
    | cons x xs ih => simp [ih]
theorem fxS_shape {o : Nat} {t : Ty} {x : t.T} {s : SV} {u : Value} (h : ShapeOK s u) : ShapeOK (fxS o t x s) u := by
  cases s with
  | one c => exact h
  | ag cs => show AggOK (cs.map _).length u; rw [List.length_map]; exact h
  | un => trivial
  | tu xs =>
    obtain ⟨vs, e, h⟩ := h
    refine ⟨vs, e, ?_⟩
    clear e
    induction xs generalizing vs with
    | nil => exact h
    | cons x xs ih =>
      cases vs with
      | nil => exact h.elim
      | cons v vs => exact ⟨by have := h.1; simpa using this, ih vs h.2⟩
theorem Wk_fix [Glob] {o : Nat} {t : Ty} {x : t.T} {cs : List C} (hq : σ.objs o = some (.cells cs)) (ho : 1000 ≤ o) (hm : mkT σ.objs t cs = some x) : Wk σ (σ.fix o t x) := by
  intro K w I g tm hi
  obtain ⟨hL, hbx⟩ := hi.cells hq
  have hb : (g.addr o).1 ∈ g.L o := by rw [hL]; simp
  have hcell : ∀ (j : Nat) (c : C), cs[j]? = some c → ∃ v, w.cell? ⟨(g.addr o).1, (g.addr o).2 + j, none⟩ = some v ∧ v.oneCell' = true ∧ CR w I g σ.objs c v := fun j c hj => by
    obtain ⟨v, h1, _, h3, _, h5⟩ := hbx j c hj
    exact ⟨v, h1, h3, h5⟩
  obtain ⟨us, hul, hus⟩ := agg_of hcell cs.length (Nat.le_refl _)
  have hrt : RT w I t x us := mkT_ok hi hm hul fun j c hj => by
    have hlt : j < us.length := by rw [hul]; exact (List.getElem?_eq_some_iff.1 hj).1
    obtain ⟨_, _, c', q1, q2⟩ := hus j us[j] (List.getElem?_eq_getElem hlt)
    rw [hj] at q1
    cases q1
    exact ⟨_, List.getElem?_eq_getElem hlt, q2⟩
  have hmine : K.mine (g.addr o).1 := by
    rcases (hi.own o _ hb).2.2 with h | ⟨a, ha, _⟩
    · exact h
    · exact absurd ha ((hi.noE' ho).1 a)
  have hI : ∀ b, I b → (I b ∨ b = (g.addr o).1) ∧ ∀ fo, w.cell? ⟨b, fo, none⟩ = w.cell? ⟨b, fo, none⟩ := fun b h => ⟨.inl h, fun _ => rfl⟩
  have hpd : ∀ c, PD w (fun b => I b ∨ b = (g.addr o).1) t x c (.pointer (some ⟨(g.addr o).1, (g.addr o).2 + c, none⟩)) := fun c =>
    ⟨(g.addr o).1, (g.addr o).2, us, rfl, ⟨.inr rfl, fun j u hu => (hus j u hu).1⟩, hrt.sub fun _ h => .inl h⟩
  let g' : Gh := ⟨g.addr, g.base, fun y => bif Nat.beq y o then [] else g.L y⟩
  have hLne : ∀ {y : Nat}, y ≠ o → g'.L y = g.L y := fun h => by show (bif Nat.beq _ o then [] else _) = _; rw [beq_ne h]; rfl
  have hLo : g'.L o = [] := by show (bif Nat.beq o o then [] else _) = _; rw [Nat.beq_refl]; rfl
  have hobo : (σ.fix o t x).objs o = some .dead := by show (bif Nat.beq o o then _ else _) = _; rw [Nat.beq_refl]; rfl
  have hobn : ∀ {y : Nat}, y ≠ o → (σ.fix o t x).objs y = (match σ.objs y with | some q => some (fxB o t x q) | none => none) := fun h => by show (bif Nat.beq _ o then _ else _) = _; rw [beq_ne h]; rfl
  have hsee : ∀ {y : Nat} {r : Rf} {u : Value}, y ≠ o → seeO w I (g.addr y) (g.base y) (g.L y) (σ.objs y) r u → seeO w (fun b => I b ∨ b = (g.addr o).1) (g'.addr y) (g'.base y) (g'.L y) ((σ.fix o t x).objs y) r u := by
    intro y r u hy h
    have hk := hi.keepX (w' := w) (I' := fun b => I b ∨ b = (g.addr o).1) (g' := g) (ob' := σ.objs) (x := y) hI (fun _ _ => rfl) rfl rfl rfl rfl r u h
    rw [hLne hy, hobn hy]
    cases hq' : σ.objs y with
    | none => rw [hq'] at h; exact h.elim
    | some q =>
      rw [hq'] at hk
      cases q with
      | cells cs' => exact see_cells (by simp) hk
      | _ => exact hk
  have hcr : ∀ {c : C} {u : Value}, CR w I g σ.objs c u → CR w (fun b => I b ∨ b = (g.addr o).1) g' (σ.fix o t x).objs (fxC o t x c) u := by
    intro c u h
    cases c with
    | d t x => exact RT.kept (fun _ h => .inl h) (fun _ _ _ => rfl) h
    | rf y r =>
      by_cases ey : y = o
      · subst ey
        have h' : seeO w I (g.addr y) (g.base y) (g.L y) (σ.objs y) r u := h
        rw [hq] at h'
        cases r with
        | pb c =>
          have hu : u = .pointer (some ⟨(g.addr y).1, (g.addr y).2 + c, none⟩) := h'
          subst hu
          simp only [fxC, Nat.beq_refl, cond_true]
          exact hpd c
        | _ => simp only [fxC, Nat.beq_refl, cond_true]; trivial
      · have : fxC o t x (.rf y r) = .rf y r := by cases r <;> simp [fxC, beq_ne ey]
        rw [this]
        exact hsee ey h
    | pd t x j => exact PD.kept h (fun _ h => .inl h) (fun _ _ _ => rfl)
    | pa t xs => exact PA.kept h (fun _ h => .inl h) (fun _ _ _ => rfl)
    | fc fn caps =>
      cases hmm : memH caps o with
      | true => simp only [fxC, hmm, cond_true]; trivial
      | false =>
        simp only [fxC, hmm, cond_false]
        obtain ⟨vs, e, ha⟩ := h
        refine ⟨vs, e, ha.mono fun y hy v hv => hsee (fun e => ?_) hv⟩
        subst e
        have := memH_iff.2 hy
        rw [hmm] at this; cases this
    | sem φ => exact ⟨h.1, h.1 _ _ _ _ _ (fun _ h => .inl h) (fun _ _ _ => rfl) h.2⟩
    | nl => exact h
    | np => exact h
    | ni => exact h
    | z => exact h
    | val v => exact h
    | any => trivial
  refine ⟨fun b => I b ∨ b = (g.addr o).1, g', {
    fr := hi.fr
    size := hi.size
    glob := hi.glob.kept (fun _ h => .inl h) (fun _ _ _ => rfl)
    imm0 := fun b hb => .inl (hi.imm0 b hb)
    immX := fun b hb => by
      rcases hb with hb | rfl
      · exact hi.immX b hb
      · exact ⟨hi.ob_lt hb, fun hlt => .inr (hmine hlt)⟩
    dis := fun y z b h1 h2 => by
      by_cases ey : y = o
      · subst ey; rw [hLo] at h1; simp at h1
      · by_cases ez : z = o
        · subst ez; rw [hLo] at h2; simp at h2
        · rw [hLne ey] at h1; rw [hLne ez] at h2; exact hi.dis y z b h1 h2
    nod := fun y => by
      by_cases ey : y = o
      · subst ey; rw [hLo]; exact List.nodup_nil
      · rw [hLne ey]; exact hi.nod y
    own := fun y b hb' => by
      by_cases ey : y = o
      · subst ey; rw [hLo] at hb'; simp at hb'
      · rw [hLne ey] at hb'
        obtain ⟨q1, q2, q3⟩ := hi.own y b hb'
        refine ⟨fun h => h.elim q1 fun e => ?_, q2, q3⟩
        subst e
        exact ey (hi.dis y o _ hb' hb)
    ext := fun y a hy => by
      obtain ⟨q1, q2⟩ := hi.ext y a hy
      refine ⟨q1, fun q hq' => ?_⟩
      have ey : y ≠ o := by omega
      rw [hobn ey] at hq'
      cases hqy : σ.objs y with
      | none => rw [hqy] at hq'; cases hq'
      | some p =>
        rw [hqy] at hq'
        cases hq'
        obtain ⟨r1, r2, r3, cs', rfl⟩ := q2 p hqy
        exact ⟨r1, r2, r3, _, rfl⟩
    exB := fun y v hy => by
      obtain ⟨q1, q2⟩ := hi.exB y v hy
      refine ⟨q1, fun q hq' => ?_⟩
      have ey : y ≠ o := by omega
      rw [hobn ey] at hq'
      cases hqy : σ.objs y with
      | none => rw [hqy] at hq'; cases hq'
      | some p => exact q2 p hqy
    obj := fun y => by
      by_cases ey : y = o
      · subst ey; unfold ObR; rw [hobo]; exact hLo
      · have hob := hi.obj y
        unfold ObR at hob ⊢
        rw [hobn ey]
        cases hqy : σ.objs y with
        | none => rw [hqy] at hob; show g'.L y = []; rw [hLne ey]; exact hob
        | some p =>
          rw [hqy] at hob
          cases p with
          | dead => show g'.L y = []; rw [hLne ey]; exact hob
          | cells cs' =>
            obtain ⟨b1, b2⟩ := hob
            refine ⟨by rw [hLne ey]; exact b1, fun j c hj => ?_⟩
            simp only [List.getElem?_map, Option.map_eq_some_iff] at hj
            obtain ⟨c0, hc0, rfl⟩ := hj
            obtain ⟨u, u1, u2, u3, u4, u5⟩ := b2 j c0 hc0
            exact ⟨u, u1, u2, u3, u4, hcr u5⟩
          | rows e t' dp xs => show OA w _ dp e t' xs (g.base y) (g'.L y); rw [hLne ey]; exact OA.kept hob (fun _ h => .inl h) (fun _ _ _ => rfl) (fun _ _ => rfl)
          | fz t' dp xs => exact ⟨by rw [hLne ey]; exact hob.1, RT.kept (fun _ h => .inl h) (fun _ _ _ => rfl) hob.2⟩
    shape := fun s => fxS_shape (hi.shape s)
    slot := fun s i c hc => by
      have hc : ((fxS o t x (σ.slots s)).cells)[i]? = some c := hc
      rw [fxS_cells] at hc
      simp only [List.getElem?_map, Option.map_eq_some_iff] at hc
      obtain ⟨c0, hc0, rfl⟩ := hc
      obtain ⟨u, u1, u2⟩ := hi.slot s i c0 hc0
      exact ⟨u, u1, hcr u2⟩ }⟩

/-! ### Function values are made -/
def capC : List SV → Option (List (Σ t : Ty, t.T))
  | [] => some []
  | .one (.pd t x 0) :: r => match capC r with
    | some cs => some (⟨t, x⟩ :: cs)
    | none => none
  | _ :: _ => none
theorem capC_ok [Glob] {K : Ctx} {w : World} {I : Nat → Prop} {g : Gh} {tm : Array Value} (hi : Inv K w I g σ tm) : ∀ {xs : List Operand} {caps : List (Σ t : Ty, t.T)}, capC (xs.map σ.ev) = some caps → All2 (fun c v => PD w I c.1 c.2 0 v) caps (xs.map (Act.eval ⟨tm, []⟩))
  | [], caps, h => by cases h; trivial
  | x :: xs, caps, h => by
    simp only [List.map_cons] at h
    unfold capC at h
    split at h
    · rename_i e; cases e
    · rename_i t y r e
      simp only [List.cons.injEq] at e
      obtain ⟨e1, rfl⟩ := e
      split at h
      · rename_i cs h2
        cases h
        exact ⟨(hi.ev_one e1).1, capC_ok hi h2⟩
      · cases h
    · cases h
theorem op_mkFn [Glob] {o : Oper} {t : Nat} {f : FuncId} {xs : List Operand} {caps : List (Σ t : Ty, t.T)} {N : St → Prop} (ho : o.op = .makeFunc (.func f) #[] xs.toArray) (hd : o.dst = some t) (ht : Nat.blt t σ.n = true) (hc : capC (xs.map σ.ev) = some caps) (hN : N (σ.over [(t, .one (.sem (clS f caps)))] [])) : OpW P o N σ := by
  refine OpW_put (s := .one (.sem (clS f caps))) hd ht (fun K w I g tm hi => ?_) hN
  refine ⟨.func (.func f) #[] (xs.map (Act.eval ⟨tm, []⟩)).toArray, by simp [execOp, ho, Instr.makeFunc], shape_one rfl ?_⟩
  exact ⟨clS_kept, _, rfl, capC_ok hi hc⟩
end Go.LX

