/- A part of the proof of the statement in the row text. -/
import Derived.Test.YtojaiockbpcilaaLxStr
import Derived.Test.YtojaiockbpcilaaLxFront
import Derived.Lib.SlBytesConst
/- One guarded operation at a time. -/
set_option linter.unusedVariables false
set_option linter.unusedSimpArgs false
namespace Go.LX
variable {P : Program} {σ : St}
def simpG1 : List Oper → Bool
  | o :: _ => simpO o.op
  | [] => false
theorem WO_runG1 [Glob] {Q : Exit → St → Prop} {ops l : List Oper} {nw : Bool} {j d : Nat} {b : Bool} {l' : List Oper} {σ' : St} {p : Prop} (hg : gOf l = some j) (hd : gSlot ops j = some d) (hb : σ.slots d = .one (.d .bo b)) (h0 : simpG1 l = true) (h : runE P nw ops 1 l σ = some (p, l', σ')) (hp : p) (hN : WO P ops.toArray Q l' σ') : WO P ops.toArray Q l σ := WO_run h hp hN
end Go.LX

/- A constant string's bytes: the row is marked, and stands fixed from then on. -/
set_option linter.unusedVariables false
set_option linter.unusedSimpArgs false
namespace Go.LX
variable {P : Program} {σ : St}
theorem freeze_facts {w : World} {b n : Nat} {cur : Array Value} {e : TypeId} {fr : Nat × Nat} (h : w.heap[b]? = some (.cells cur e fr)) :
    (∀ f, (w.freeze ⟨b, n, none⟩ 1).cell? ⟨b, f, none⟩ = w.cell? ⟨b, f, none⟩) ∧ (∀ x, x ≠ b → (w.freeze ⟨b, n, none⟩ 1).heap[x]? = w.heap[x]?) ∧ (w.freeze ⟨b, n, none⟩ 1).heap.size = w.heap.size ∧ (w.freeze ⟨b, n, none⟩ 1).os = w.os ∧ (w.freeze ⟨b, n, none⟩ 1).tape = w.tape ∧ (w.freeze ⟨b, n, none⟩ 1).output = w.output := by
  obtain ⟨hlt, hg⟩ := Array.getElem?_eq_some_iff.1 h
  unfold World.freeze
  rw [if_neg (by decide)]
  refine ⟨fun f => ?_, fun x hx => ?_, by simp, rfl, rfl, rfl⟩
  · simp [World.cell?, hlt, Array.getElem_modify, hg]
  · simp only [Array.getElem?_modify]
    rw [if_neg (Ne.symm hx)]
theorem op_cvF [Glob] {o : Oper} {t' k : Nat} {ty e e' : TypeId} {x : Operand} {dp : Bool} {xs : List Ty.u8.T} {N : St → Prop} (ho : o.op = .convert ty ty x) (hd : o.dst = some t') (ht : Nat.blt t' σ.n = true) (he : elemB P ty = some e') (hu8 : isU8B P e' = true) (hx : σ.ev x = .one (.rf k .ar)) (hq : σ.objs k = some (.rows e .u8 dp xs)) (h0 : Nat.blt 0 xs.length = true)
    (hN : N (σ.over [(t', .one (.rf k .ar))] [(k, some (.fz .u8 dp xs))])) : OpW P o N σ := by
  intro K w I g tm hi
  have h0 := Nat.le_of_ble_eq_true h0
  have hu : Act.eval ⟨tm, []⟩ x = g.base k := by
    have hc' : seeO w I (g.addr k) (g.base k) (g.L k) (σ.objs k) .ar (Act.eval ⟨tm, []⟩ x) := (hi.ev_one hx).1
    rw [hq] at hc'; exact hc'
  have hoa := hi.rows hq
  obtain ⟨vs, L', hor, hrows, hL⟩ := hoa
  rcases hor.2 with ⟨_, hn0⟩ | ⟨b, f1, cap, cur, hb0, hg, hnc, hcm, hcs, htake⟩
  · omega
  have hown : b ∈ g.L k := by rw [hL, hb0]; simp [Value.ownBlock]
  obtain ⟨q1, q2, q3, q4, q5, q6⟩ := freeze_facts (n := cur.size) hg
  have hrun : (execOp (Act.eval ⟨tm, []⟩) o).run P w = .ok (.value (g.base k)) (w.freeze ⟨b, cur.size, none⟩ 1) := by
    have hus := elemB_ok he
    have hue : P.underlying e' = some (.int .u8) := by
      unfold isU8B at hu8
      split at hu8
      · assumption
      · cases hu8
    have hsh : w.shape? b = some (e, cur.size) := by unfold World.shape?; rw [hg]
    simp [execOp, ho, hu, hb0, convert, run_underlying hus, run_underlying hue, markStringish, hsh]
  generalize w.freeze ⟨b, cur.size, none⟩ 1 = w' at q1 q2 q3 q4 q5 q6 hrun
  have hgr : Grow w w' fun x => x = b := ⟨q4, q5, q6, by omega, fun x _ hx => q2 x hx⟩
  have hcell : ∀ x f, w'.cell? ⟨x, f, none⟩ = w.cell? ⟨x, f, none⟩ := fun x f => by
    by_cases hxb : x = b
    · rw [hxb]; exact q1 f
    · exact cell_block (q2 x hxb) f
  have hinv : Inv K w' (fun b => I b ∨ b ∈ g.L k) (g.setO k (g.addr k) (g.base k) []) (σ.setO k (.fz .u8 dp xs)) tm := by
    refine hi.one (T := fun x => x = b) hgr (fun x hx => .inl (by rw [hx]; exact hown)) (hi.fr.step (T := fun x => x = b) hgr fun x hx => by rw [hx]; exact hi.own_mine hq (fun _ h => by cases h) hown) (fun _ h => .inl h) (fun c hc => hc.imp id fun hc => ⟨.inl hc, hi.own_mine hq (fun _ h => by cases h) hc, by simp, by rw [q3]; exact hi.ob_lt hc⟩) List.nodup_nil (fun c hc => by simp at hc) (fun a ha => absurd ha (hi.noE hq (fun _ h => by cases h) a)) (fun v hv => (hi.exB k v hv).2 _ hq) ?_ fun _ _ => ?_
    · intro r u hs
      rw [hq] at hs
      rw [St.setO_same, Gh.setO_eq.1, Gh.setO_eq.2.1]
      exact see_fz (fun c hc => ⟨fun hc => hc, fun f => hcell c f⟩) hs
    · unfold ObR; rw [St.setO_same]; rw [Gh.setO_eq.2.1, Gh.setO_eq.2.2]
      exact ⟨rfl, (hi.rows hq).rt.kept (fun _ h => h) fun c _ f => hcell c f⟩
  rw [hrun]
  simp only [Oper.upon, Act.put, hd]
  refine ⟨trivial, _, (fun b => I b ∨ b ∈ g.L k), g.setO k (g.addr k) (g.base k) [], hN, ?_⟩
  refine hinv.put (s := .one (.rf k .ar)) (u := g.base k) (Nat.le_of_ble_eq_true ht) (by rw [hb0]; rfl) fun i c hc => ?_
  obtain ⟨rfl, rfl⟩ := one_cell hc
  refine ⟨g.base k, by rw [hb0]; rfl, ?_⟩
  show seeO _ _ _ _ _ ((σ.setO k _).objs k) _ _
  rw [St.setO_same, Gh.setO_eq.2.1]
  rfl
end Go.LX

