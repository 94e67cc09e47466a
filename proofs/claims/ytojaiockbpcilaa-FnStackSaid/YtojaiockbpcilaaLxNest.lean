/- Calls that write into a slice inside an owned slice's row. -/
import Derived.Test.YtojaiockbpcilaaLxHand
set_option linter.unusedVariables false
set_option linter.unusedSimpArgs false
namespace Go.LX

variable {P : Program} {σ : St}

/-- The slice in cell j, told anew. -/
def setSl (e : Ty) (ys : List e.T) : (t : Ty) → t.T → Nat → Option t.T
  | .pr a b, x, j => bif Nat.blt j a.w then (setSl e ys a x.1 j).map fun y => (y, x.2) else (setSl e ys b x.2 (j - a.w)).map fun y => (x.1, y)
  | .sl e', _, j => bif Nat.beq j 0 then match decEq e e' with
    | isTrue h => castO h ys
    | isFalse _ => none
    else none
  | _, _, _ => none
theorem OT.cellSplit {w : World} {e : Ty} {ys : List e.T} : ∀ {t : Ty} {x : t.T} {us : List Value} {L : List Nat} {j : Nat}, OT w t x us L → cellAt t x j = some ⟨.sl e, ys⟩ →
    ∃ u A B C, us[j]? = some u ∧ L = A ++ B ++ C ∧ OT w (.sl e) ys [u] B ∧ ∀ (w' : World) (ys' : List e.T) (B' : List Nat) (x' : t.T), (∀ b ∈ A ++ C, w'.heap[b]? = w.heap[b]?) → OT w' (.sl e) ys' [u] B' → setSl e ys' t x j = some x' → OT w' t x' us (A ++ B' ++ C)
  | .pr a b, x, us, L, j, h, hc => by
    obtain ⟨u1, u2, L1, L2, rfl, rfl, h1, h2⟩ := h
    have hl := h1.len
    unfold cellAt at hc
    cases hb : Nat.blt j a.w with
    | true =>
      rw [hb] at hc
      simp only [cond_true] at hc
      have hlt : j < a.w := Nat.le_of_ble_eq_true hb
      obtain ⟨u, A, B, C, q1, rfl, q2, q3⟩ := OT.cellSplit h1 hc
      refine ⟨u, A, B, C ++ L2, by rw [List.getElem?_append_left (by omega)]; exact q1, by simp, q2, fun w' ys' B' x' hk ho hs => ?_⟩
      unfold setSl at hs
      rw [hb] at hs
      simp only [cond_true, Option.map_eq_some_iff] at hs
      obtain ⟨y, hy, rfl⟩ := hs
      exact ⟨u1, u2, A ++ B' ++ C, L2, rfl, by simp, q3 w' ys' B' y (fun b hb => hk b (by simp only [List.mem_append] at hb ⊢; rcases hb with h | h <;> simp [h])) ho hy, OT.kept (fun b hb => hk b (by simp [hb])) h2⟩
    | false =>
      rw [hb] at hc
      simp only [cond_false] at hc
      have hge : a.w ≤ j := Nat.not_lt.1 fun h => by rw [show Nat.blt j a.w = true from Nat.ble_eq_true_of_le h] at hb; cases hb
      obtain ⟨u, A, B, C, q1, rfl, q2, q3⟩ := OT.cellSplit h2 hc
      refine ⟨u, L1 ++ A, B, C, by rw [List.getElem?_append_right (by omega), hl]; exact q1, by simp, q2, fun w' ys' B' x' hk ho hs => ?_⟩
      unfold setSl at hs
      rw [hb] at hs
      simp only [cond_false, Option.map_eq_some_iff] at hs
      obtain ⟨y, hy, rfl⟩ := hs
      exact ⟨u1, u2, L1, A ++ B' ++ C, rfl, by simp, OT.kept (fun b hb => hk b (by simp [hb])) h1, q3 w' ys' B' y (fun b hb => hk b (by simp only [List.mem_append] at hb ⊢; rcases hb with h | h <;> simp [h])) ho hy⟩
  | .sl e', x, us, L, j, h, hc => by
    unfold cellAt at hc
    cases j with
    | succ j => cases (show (none : Option (Σ s : Ty, s.T)) = some _ from hc)
    | zero =>
      simp at hc
      obtain ⟨rfl, hc⟩ := hc
      cases hc
      obtain ⟨u, eid, vs, L', rfl, ho, hr, rfl⟩ := id h
      refine ⟨u, [], u.ownBlock.toList ++ L', [], rfl, by simp, h, fun w' ys' B' x' _ ho' hs => ?_⟩
      have : x' = ys' := by
        unfold setSl at hs
        rw [show Nat.beq 0 0 = true from rfl, cond_true] at hs
        split at hs
        · rename_i hh _; cases hs; rfl
        · cases hs
      subst this
      simpa using ho'
  | .i k, x, us, L, j, h, hc => by
    cases j with
    | zero => exact absurd (show (some ⟨.i k, x⟩ : Option (Σ s : Ty, s.T)) = some ⟨.sl e, ys⟩ from hc) (by simp)
    | succ j => cases (show (none : Option (Σ s : Ty, s.T)) = some _ from hc)
  | .u8, x, us, L, j, h, hc => by
    cases j with
    | zero => exact absurd (show (some ⟨.u8, x⟩ : Option (Σ s : Ty, s.T)) = some ⟨.sl e, ys⟩ from hc) (by simp)
    | succ j => cases (show (none : Option (Σ s : Ty, s.T)) = some _ from hc)
  | .bo, x, us, L, j, h, hc => by
    cases j with
    | zero => exact absurd (show (some ⟨.bo, x⟩ : Option (Σ s : Ty, s.T)) = some ⟨.sl e, ys⟩ from hc) (by simp)
    | succ j => cases (show (none : Option (Σ s : Ty, s.T)) = some _ from hc)
  | .st, x, us, L, j, h, hc => by
    cases j with
    | zero => exact absurd (show (some ⟨.st, x⟩ : Option (Σ s : Ty, s.T)) = some ⟨.sl e, ys⟩ from hc) (by simp)
    | succ j => cases (show (none : Option (Σ s : Ty, s.T)) = some _ from hc)
  | .un, x, us, L, j, h, hc => by unfold cellAt at hc; simp at hc

theorem OA.deep {w : World} {I : Nat → Prop} {e : TypeId} {t : Ty} {xs : List t.T} {u : Value} {L : List Nat} (hf : t.flat = true) (h : OA w I false e t xs u L) : OA w I true e t xs u L := by
  obtain ⟨vs, L', ho, hr, rfl⟩ := h
  refine ⟨vs, L', ho, hr.mono fun x u L1 _ _ h => ?_, rfl⟩
  obtain ⟨rfl, h⟩ := h
  exact RT.ot hf h
theorem OT.nilL {w : World} : ∀ {t : Ty} {x : t.T} {us : List Value} {L : List Nat}, t.flat = true → OT w t x us L → L = []
  | .i _, _, _, _, _, h => h.2
  | .u8, _, _, _, _, h => h.2
  | .bo, _, _, _, _, h => h.2
  | .st, _, _, _, _, h => h.2
  | .un, _, _, _, _, h => h.2
  | .sl _, _, _, _, hf, _ => by simp [Ty.flat] at hf
  | .pr a b, _, _, _, hf, h => by
    obtain ⟨f1, f2⟩ := Bool.and_eq_true_iff.1 hf
    obtain ⟨_, _, L1, L2, _, rfl, h1, h2⟩ := h
    rw [OT.nilL f1 h1, OT.nilL f2 h2]; rfl
theorem OA.flat {w : World} {I : Nat → Prop} {e : TypeId} {t : Ty} {xs : List t.T} {u : Value} {L : List Nat} (hf : t.flat = true) (h : OA w I true e t xs u L) : OA w I false e t xs u L := by
  obtain ⟨vs, L', ho, hr, rfl⟩ := h
  refine ⟨vs, L', ho, hr.mono fun x u L1 _ _ h => ?_, rfl⟩
  have h : OT w t x u L1 := h
  obtain rfl := OT.nilL hf h
  exact ⟨rfl, (OT.rt h).sub fun b hb => by simp at hb⟩
theorem OA.to {w : World} {I : Nat → Prop} {dp dp' : Bool} {e : TypeId} {t : Ty} {xs : List t.T} {u : Value} {L : List Nat} (hf : (dp == dp' || t.flat) = true) (h : OA w I dp e t xs u L) : OA w I dp' e t xs u L := by
  cases dp <;> cases dp' <;> first | exact h | skip
  · exact h.deep (by simpa using hf)
  · exact h.flat (by simpa using hf)
theorem OT_OA {w : World} {I : Nat → Prop} {t : Ty} {xs : List t.T} {u : Value} {L : List Nat} : OT w (.sl t) xs [u] L ↔ ∃ e, OA w I true e t xs u L := by
  constructor
  · rintro ⟨u', e, vs, L', hu, ho, hr, rfl⟩
    simp at hu
    subst hu
    exact ⟨e, vs, L', ho, hr, rfl⟩
  · rintro ⟨e, vs, L', ho, hr, rfl⟩
    exact ⟨u, e, vs, L', rfl, ho, hr, rfl⟩

/-- A function that is handed a slice inside a row. -/
theorem op_callN [Glob] {o : Oper} {d : Option Nat} {f : FuncId} {xs : List Operand} {tys : Array TypeId} {args post : TypeId → List SA} {res : RS} {id k q i j : Nat} {x : Operand} {e0 : TypeId} {t e : Ty} {dp : Bool} {zs : List t.T} {ys ys' : List e.T} {x' : t.T} {N : St → Prop}
    (hF : ∀ e1, FnC P f (args e1) (post e1) res) (ho : o.op = .call { callee := .value (.func f), args := xs.toArray, argTypes := tys }) (hd : o.dst = d) (ht : dstB σ.n d = true) (hf : fnB P f = true)
    (hk : ∀ e1, (args e1)[k]? = some (.c (.own e1 e dp ys))) (hx : xs[k]? = some x) (hv : σ.ev x = .one (.rf q (.ns i j))) (hq : σ.objs q = some (.rows e0 t true zs)) (hc : cellAt t (zs.getD i (dflt t)) j = some ⟨.sl e, ys⟩) (hdp : (true == dp || e.flat) = true) (hargs : ∀ e1, aPs σ.objs k (args e1) (xs.map σ.ev))
    (hpk : ∀ e1, (post e1)[k]? = some (.c (.own e1 e dp ys'))) (hpn : ∀ e1, nOs k (post e1) = true) (hs : setSl e ys' t (zs.getD i (dflt t)) j = some x')
    (hid : newR (σ.hand [(q, .own e0 t true (zs.set i x'))]).objs d res.cells.length = some id) (hN : N ((enC id res.cells (σ.hand [(q, .own e0 t true (zs.set i x'))])).putD d (res.svN id))) : OpW P o N σ := by
  intro K w I g tm hi
  rw [fnB_run ho hf]
  simp only [Oper.upon]
  have hp : seeO w I (g.addr q) (g.base q) (g.L q) (σ.objs q) (.ns i j) (Act.eval ⟨tm, []⟩ x) := (hi.ev_one hv).1
  rw [hq] at hp
  obtain ⟨hsl, b, f1, cap, hb, hlt, hcell⟩ := hp
  have hnod := hi.nod q
  obtain ⟨vs0, L', hor, hrows, hL⟩ := hi.rows hq
  rw [getD_at hlt] at hc hs
  obtain ⟨u1, us, u2, L1, L0, L2, hvs0, hL', hu1, hul, hfront, hrow, hbehind⟩ := hrows.at (fun _ _ _ h => h.len) (List.getElem?_eq_getElem hlt)
  have hrow : OT w t zs[i] us L0 := hrow
  obtain ⟨u, A, B, C, huj, hL0, hown, hback⟩ := OT.cellSplit hrow hc
  have hevx : Act.eval ⟨tm, []⟩ x = u := by
    have hjl := (List.getElem?_eq_some_iff.1 huj).1
    rw [hb] at hor
    have := hor.cells (i * t.w + j) u (by
      rw [hvs0, List.append_assoc, List.getElem?_append_right (by omega), hu1, Nat.add_sub_cancel_left, List.getElem?_append_left hjl]; exact huj)
    rw [← Nat.add_assoc, hcell] at this
    exact Option.some.inj this
  obtain ⟨e1, hoa⟩ := (OT_OA (I := I)).1 hown
  have hgL : g.L q = (g.base q).ownBlock.toList ++ (L1 ++ (A ++ B ++ C) ++ L2) := by rw [hL, hL', hL0]
  rw [hgL] at hnod
  have hBsub : ∀ c ∈ B, c ∈ g.L q := fun c hc => by rw [hgL]; simp [hc]
  have hBnd : B.Nodup := by
    have h1 := (List.nodup_append.1 hnod).2.1
    have h2 := (List.nodup_append.1 h1).1
    have h3 := (List.nodup_append.1 h2).2.1
    have h4 := (List.nodup_append.1 h3).1
    exact (List.nodup_append.1 h4).2.1
  -- the other blocks of q are none of B
  have hoth : ∀ c, c ∈ (g.base q).ownBlock.toList ∨ c ∈ L1 ∨ c ∈ A ∨ c ∈ C ∨ c ∈ L2 → c ∉ B := by
    intro c hc hB
    simp only [List.nodup_append, List.mem_append] at hnod
    obtain ⟨_, ⟨⟨_, ⟨⟨_, _, hAB⟩, _, hABC⟩, hL1⟩, _, hL2⟩, hO⟩ := hnod
    rcases hc with h | h | h | h | h
    · exact hO c h c (.inl (.inr (.inl (.inr hB)))) rfl
    · exact hL1 c h c (.inl (.inr hB)) rfl
    · exact hAB c h c hB rfl
    · exact hABC c (.inr hB) c h rfl
    · exact hL2 c (.inr (.inl (.inr hB))) c h rfl
  have har : AR w I (.c (.own e1 e dp ys)) (Act.eval ⟨tm, []⟩ x) B [] := ⟨rfl, by rw [hevx]; exact hoa.to hdp⟩
  refine (hF e1 w I _ B [] ⟨fun b hb => (hi.immX b hb).1, hi.glob⟩ (aPs_ok hi (hargs e1) (hk e1) hx har) (by simpa using hBnd) (fun b hb => by simp at hb; exact ⟨(hi.own q b (hBsub b hb)).1, hi.ob_lt (hBsub b hb)⟩)).mono ?_
  rintro ee w' ⟨v, rfl, hfc, I', Lq, Lr, hI1, hI2, hpost, hres, hnd2, hown2⟩
  obtain ⟨nd1, nd2, nd3⟩ := List.nodup_append.1 hnd2
  have hr := hpost.at (hpn e1) (hpk e1) (u := Act.eval ⟨tm, []⟩ x) (by simp [hx])
  have hoa2 : OA w' I' dp e1 e ys' u Lq := by have := hr.2; rw [hevx] at this; exact this
  have hoa3 : OA w' I' true e1 e ys' u Lq := hoa2.to (by cases dp <;> simp at hdp ⊢ <;> exact hdp)
  have hkept : ∀ c, c < w.heap.size → c ∉ B → w'.heap[c]? = w.heap[c]? := fun c h1 h2 => hfc.old c h1 h2 (by simp)
  have hlt' : ∀ c, c ∈ (g.base q).ownBlock.toList ∨ c ∈ L1 ∨ c ∈ A ∨ c ∈ C ∨ c ∈ L2 → c ∈ g.L q := fun c hc => by
    rw [hgL]; simp only [List.mem_append]
    rcases hc with h | h | h | h | h
    · exact .inl h
    · exact .inr (.inl (.inl h))
    · exact .inr (.inl (.inr (.inl (.inl h))))
    · exact .inr (.inl (.inr (.inr h)))
    · exact .inr (.inr h)
  have hk2 : ∀ c, c ∈ (g.base q).ownBlock.toList ∨ c ∈ L1 ∨ c ∈ A ∨ c ∈ C ∨ c ∈ L2 → w'.heap[c]? = w.heap[c]? := fun c hc => hkept c (hi.ob_lt (hlt' c hc)) (hoth c hc)
  have hrow2 : OT w' t x' us (A ++ Lq ++ C) := hback w' ys' Lq x' (fun c hc => hk2 c (by rcases List.mem_append.1 hc with h | h <;> simp [h])) ((OT_OA (I := I')).2 ⟨e1, hoa3⟩) hs
  have hIw : ∀ b, I b → ∀ fo, w'.cell? ⟨b, fo, none⟩ = w.cell? ⟨b, fo, none⟩ := fun b hb fo => cell_block (hkept b (hi.immX b hb).1 fun h => (hi.own q b (hBsub b h)).1 hb) fo
  -- the rows as they stand now
  have hnewrows : Rows (RR w' I' true t) (zs.set i x') (u1 ++ us ++ u2) (L1 ++ (A ++ Lq ++ C) ++ L2) := by
    rw [List.set_eq_take_append_cons_drop, if_pos hlt, List.append_assoc, List.append_assoc]
    refine Rows.append (hfront.mono fun x u M _ hM h => RR.kept hI1 hIw (fun c hc => hk2 c (.inr (.inl (hM c hc)))) h) ?_
    exact ⟨us, u2, A ++ Lq ++ C, L2, rfl, rfl, hrow2, hbehind.mono fun x u M _ hM h => RR.kept hI1 hIw (fun c hc => hk2 c (.inr (.inr (.inr (.inr (hM c hc)))))) h⟩
  have hblk : ∀ b', (g.base q).ownBlock = some b' → w'.heap[b']? = w.heap[b']? := fun b' hb' => hk2 b' (.inl (by rw [hb']; simp))
  have hOAq : OA w' I' true e0 t (zs.set i x') (g.base q) ((g.base q).ownBlock.toList ++ (L1 ++ (A ++ Lq ++ C) ++ L2)) := by
    refine ⟨vs0, _, ?_, by rw [hvs0]; exact hnewrows, rfl⟩
    rw [List.length_set]; exact ownsR_block hor hblk
  have hgr : Grow w w' fun b => ∃ x ∈ [(q, S0.own e0 t true (zs.set i x'))], b ∈ g.L x.1 := ⟨hfc.os, hfc.tape, hfc.output, hfc.size, fun c hc hn => hkept c hc fun h => hn ⟨(q, S0.own e0 t true (zs.set i x')), by simp, hBsub c h⟩⟩
  -- where the blocks of q are now
  have hmemf : ∀ c, c ∈ (g.base q).ownBlock.toList ++ (L1 ++ (A ++ Lq ++ C) ++ L2) ↔ (c ∈ (g.base q).ownBlock.toList ∨ c ∈ L1 ∨ c ∈ A ∨ c ∈ C ∨ c ∈ L2) ∨ c ∈ Lq := by
    intro c; simp only [List.mem_append]
    constructor
    · rintro (h | ((h | ((h | h) | h)) | h)) <;> simp [h]
    · rintro ((h | h | h | h | h) | h) <;> simp [h]
  have hqL : ∀ c ∈ Lq, ¬ I' c ∧ c < w'.heap.size ∧ (c < w.heap.size → c ∈ B) := fun c hc => by
    obtain ⟨q1, _, q3, q4⟩ := hown2 c (by simp [hc])
    exact ⟨q1, q3, q4⟩
  have hdisj : ∀ c, c ∈ (g.base q).ownBlock.toList ∨ c ∈ L1 ∨ c ∈ A ∨ c ∈ C ∨ c ∈ L2 → c ∉ Lq := fun c hc h => hoth c hc ((hqL c h).2.2 (hi.ob_lt (hlt' c hc)))
  have hnodf : ((g.base q).ownBlock.toList ++ (L1 ++ (A ++ Lq ++ C) ++ L2)).Nodup := by
    simp only [List.nodup_append, List.mem_append] at hnod ⊢
    obtain ⟨n1, ⟨⟨n2, ⟨⟨n3, _, hAB⟩, n4, hABC⟩, hL1⟩, n5, hL2⟩, hO⟩ := hnod
    refine ⟨n1, ⟨⟨n2, ⟨⟨n3, nd1, ?_⟩, n4, ?_⟩, ?_⟩, n5, ?_⟩, ?_⟩
    · rintro a ha c hc rfl; exact hdisj a (.inr (.inr (.inl ha))) hc
    · rintro a (ha | ha) c hc rfl
      · exact hABC a (.inl ha) a hc rfl
      · exact hdisj a (.inr (.inr (.inr (.inl hc)))) ha
    · rintro a ha c ((hc | hc) | hc) rfl
      · exact hL1 a ha a (.inl (.inl hc)) rfl
      · exact hdisj a (.inr (.inl ha)) hc
      · exact hL1 a ha a (.inr hc) rfl
    · rintro a (ha | ((ha | ha) | ha)) c hc rfl
      · exact hL2 a (.inl ha) a hc rfl
      · exact hL2 a (.inr (.inl (.inl ha))) a hc rfl
      · exact hdisj a (.inr (.inr (.inr (.inr hc)))) ha
      · exact hL2 a (.inr (.inr ha)) a hc rfl
    · rintro a ha c ((hc | ((hc | hc) | hc)) | hc) rfl
      · exact hO a ha a (.inl (.inl hc)) rfl
      · exact hO a ha a (.inl (.inr (.inl (.inl hc)))) rfl
      · exact hdisj a (.inl ha) hc
      · exact hO a ha a (.inl (.inr (.inr hc))) rfl
      · exact hO a ha a (.inr hc) rfl
  have hinv := hi.handed (hs := [(q, .own e0 t true (zs.set i x'))]) (by simp) (fun x hx => by
    simp only [List.mem_singleton] at hx
    subst hx
    exact ⟨_, _, _, _, hq, rfl⟩) hgr hI1 (fun c hc => ⟨(hI2 c hc).1, fun h => ((hI2 c hc).2 h).imp (fun h => h) fun h => ⟨(q, S0.own e0 t true (zs.set i x')), by simp, hBsub c h⟩⟩)
    (fun x => if x = q then (g.base q).ownBlock.toList ++ (L1 ++ (A ++ Lq ++ C) ++ L2) else []) (fun x hx => by
      simp only [List.mem_singleton] at hx
      subst hx
      simp only [if_true]
      exact hOAq) (fun x => by
      by_cases ex : x = q
      · simp only [ex, if_true]; exact hnodf
      · simp only [ex, if_false]; exact List.nodup_nil) (fun x y c hx hy => by
      by_cases ex : x = q <;> by_cases ey : y = q
      · rw [ex, ey]
      · simp [ey] at hy
      · simp [ex] at hx
      · simp [ex] at hx) (fun x hx c hc => by
      simp only [List.mem_singleton] at hx
      subst hx
      simp only [if_true] at hc
      rcases (hmemf c).1 hc with h | h
      · refine ⟨fun hI => ?_, Nat.lt_of_lt_of_le (hi.ob_lt (hlt' c h)) hfc.size, fun _ => .inl ⟨(q, S0.own e0 t true (zs.set i x')), by simp, hlt' c h⟩⟩
        rcases (hI2 c hI).2 (hi.ob_lt (hlt' c h)) with h' | h'
        · exact (hi.own q c (hlt' c h)).1 h'
        · exact hoth c h h'
      · obtain ⟨q1, q2, q3⟩ := hqL c h
        exact ⟨q1, q2, fun hlt => .inl ⟨(q, S0.own e0 t true (zs.set i x')), by simp, hBsub c (q3 hlt)⟩⟩)
  have hmine : ∀ c ∈ g.L q, K.mine c := fun c hc => hi.own_mine hq (fun _ h => by cases h) hc
  have hfree : ∀ c ∈ Lr, Free K I' ⟨g.addr, g.base, fun o => bif memH ([(q, S0.own e0 t true (zs.set i x'))].map (·.1)) o then (if o = q then (g.base q).ownBlock.toList ++ (L1 ++ (A ++ Lq ++ C) ++ L2) else []) else g.L o⟩ c := by
    intro c hc
    obtain ⟨q1, _, q3, q4⟩ := hown2 c (by simp [hc])
    refine ⟨q1, fun y hy => ?_, fun hlt => hmine c (hBsub c (q4 (Nat.lt_of_lt_of_le hlt hi.fr.size))) hlt⟩
    by_cases ey : y = q
    · subst ey
      have hy : c ∈ (g.base y).ownBlock.toList ++ (L1 ++ (A ++ Lq ++ C) ++ L2) := by simpa [memH] using hy
      rcases (hmemf c).1 hy with h | h
      · exact hoth c h (q4 (hi.ob_lt (hlt' c h)))
      · exact nd3 c h c hc rfl
    · have hy : c ∈ g.L y := by simpa [memH, beq_ne ey] using hy
      exact ey (hi.dis y q c hy (hBsub c (q4 (hi.ob_lt hy))))
  obtain ⟨g', hfin⟩ := hinv.res hres nd2 hfree (newR_ok hid) ht
  cases d with
  | none => simp only [Act.put, hd]; exact ⟨trivial, _, _, _, hN, hfin⟩
  | some t => simp only [Act.put, hd]; exact ⟨trivial, _, _, _, hN, hfin⟩
/-- The same, as an update. -/
theorem callN [Glob] {o : Oper} {d : Option Nat} {f : FuncId} {xs : List Operand} {tys : Array TypeId} {args post : TypeId → List SA} {res : RS} {id q i j : Nat} (k : Nat) {x : Operand} {e0 : TypeId} {t e : Ty} {dp : Bool} {zs : List t.T} {ys ys' : List e.T} {x' : t.T} {N : St → Prop}
    (hF : ∀ e1, FnC P f (args e1) (post e1) res) (ho : o.op = .call { callee := .value (.func f), args := xs.toArray, argTypes := tys }) (hd : o.dst = d) (ht : dstB σ.n d = true) (hf : fnB P f = true)
    (hk : ∀ e1, (args e1)[k]? = some (.c (.own e1 e dp ys))) (hx : xs[k]? = some x) (hv : σ.ev x = .one (.rf q (.ns i j))) (hq : σ.objs q = some (.rows e0 t true zs)) (hc : cellAt t (zs.getD i (dflt t)) j = some ⟨.sl e, ys⟩) (hdp : (true == dp || e.flat) = true) (hargs : ∀ e1, aPs σ.objs k (args e1) (xs.map σ.ev))
    (hpk : ∀ e1, (post e1)[k]? = some (.c (.own e1 e dp ys'))) (hpn : ∀ e1, nOs k (post e1) = true) (hs : setSl e ys' t (zs.getD i (dflt t)) j = some x')
    (hid : newR (σ.hand [(q, .own e0 t true (zs.set i x'))]).objs d res.cells.length = some id) (hN : N ((σ.hand [(q, .own e0 t true (zs.set i x'))]).over (dstU d (res.svN id)) (obL id res.cells))) : OpW P o N σ :=
  op_callN hF ho hd ht hf hk hx hv hq hc hdp hargs hpk hpn hs hid (by rw [enC_over, putD_over]; exact hN)
end Go.LX
