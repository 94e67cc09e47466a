/- Bytes as a string. -/
import Derived.Test.YtojaiockbpcilaaLxLitF
import Derived.Laws.BytesString
set_option linter.unusedVariables false
set_option linter.unusedSimpArgs false
namespace Go.LX

variable {P : Program} {σ : St}
theorem RW_run1 [Glob] {Q : Exit → St → Prop} {ops l : List Oper} {nw : Bool} {acc acc' : List Fp} {L : List (Prop × Upd)} {p : Prop} {l' : List Oper} {σ' : St} (h0 : simp1 l = true) (h : drawE P nw ops σ.slots σ.objs 1 l σ = some L) (h2 : ∀ s0 b0, drawE P nw ops s0 b0 1 l σ = some L) (h3 : finE ops 1 l σ acc L = some (p, acc', l', σ')) (hp : p)
    (hN : RW P ops Q acc' l' σ') : RW P ops Q acc l σ := RW_run h2 h3 hp hN
theorem foldB (xs : List UInt8) : ∀ acc : ByteArray, (xs.map fun b => (b.toNat : Int)).foldl (fun r n => r.push (UInt8.ofNat n.toNat)) acc = ⟨acc.data ++ xs.toArray⟩ := by
  induction xs with
  | nil => intro acc; simp
  | cons x xs ih =>
    intro acc
    rw [List.map_cons, List.foldl_cons, ih]
    simp [ByteArray.push]
theorem rows_bytes {w : World} {S : Nat → Prop} : ∀ {xs : List UInt8} {news : List Value}, Rows (fun (x : Ty.u8.T) us L => L = [] ∧ RT w S .u8 x us) xs news [] → news = (xs.map fun b => (b.toNat : Int)).map (Value.int .u8)
  | [], _, h => h.1
  | x :: xs, _, h => by
    obtain ⟨u1, u2, L1, L2, rfl, hL, ⟨rfl, h1⟩, h2⟩ := h
    rw [List.nil_append] at hL
    subst hL
    rw [rows_bytes h2]
    have h1 : u1 = [.int .u8 (x.toNat : Int)] := h1
    rw [h1]; rfl
def strTB (P : Program) (ty : TypeId) : Bool := match P.underlying ty with
  | some .string => true
  | _ => false
def isU8B (P : Program) (ty : TypeId) : Bool := match P.underlying ty with
  | some (.int .u8) => true
  | _ => false
theorem op_bs [Glob] {o : Oper} {t' : Nat} {s d e : TypeId} {x : Operand} {c : C} {xs : List UInt8} {N : St → Prop} (ho : o.op = .convert s d x) (hd : o.dst = some t') (ht : Nat.blt t' σ.n = true) (hs : elemB P s = some e) (he : isU8B P e = true) (hdt : strTB P d = true) (hx : σ.ev x = .one c) (hc : slC σ.objs c = some ⟨.u8, xs⟩)
    (hN : N (σ.over [(t', .one (.d .st xs))] [])) : OpW P o N σ := by
  intro K w I g tm hi
  have hrt := CR.slC hi (hi.ev_one hx).1 hc
  obtain ⟨a, cap, news, hu, hrows, hsrc⟩ := rt_src hrt
  have hnews := rows_bytes hrows
  have hus := elemB_ok hs
  have hue : P.underlying e = some (.int .u8) := by
    unfold isU8B at he
    split at he
    · assumption
    · cases he
  have hud : P.underlying d = some .string := by
    unfold strTB at hdt
    split at hdt
    · assumption
    · cases hdt
  have hrun : (execOp (Act.eval ⟨tm, []⟩) o).run P w = .ok (.value (strV xs)) w := by
    rcases hsrc with ⟨rfl, hl⟩ | ⟨a', rfl, hcell⟩
    · have : xs = [] := List.eq_nil_of_length_eq_zero hl
      subst this
      simp [execOp, ho, hu, convert, run_underlying hus, run_underlying hud, run_underlying hue, Conv.bytesToString, strV]
      rfl
    · have hl := run_loadCells_list (P := P) w a' news hcell
      have hlen : news.length = xs.length := by rw [hnews]; simp
      have hlen' : List.length (α := Ty.u8.T) xs = news.length := hlen.symm
      rw [hnews] at hl
      have := run_bytesToString (P := P) w a' news.length cap (xs.map fun b => (b.toNat : Int)) (by rw [hnews]; exact hl)
      rw [foldB] at this
      simp [execOp, ho, hu, hlen', convert, run_underlying hus, run_underlying hud, run_underlying hue, this, strV]
  rw [hrun]
  simp only [Oper.upon, Act.put, hd]
  refine ⟨trivial, _, I, g, hN, ?_⟩
  rw [← up_put]
  refine hi.put (Nat.le_of_ble_eq_true ht) rfl fun i c hc => ?_
  obtain ⟨rfl, rfl⟩ := one_cell hc
  exact ⟨_, rfl, rfl⟩
end Go.LX
