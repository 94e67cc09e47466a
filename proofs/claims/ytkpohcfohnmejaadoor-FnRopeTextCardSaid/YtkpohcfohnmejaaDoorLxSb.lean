/- A string's bytes in new memory, told as data. -/
import Derived.Lib.ConvBytes
import Derived.Laws.AppendOwn
import Derived.Test.YtkpohcfohnmejaaDoorLxCv
import Derived.Test.YtkpohcfohnmejaaDoorLxFrz
set_option linter.unusedVariables false
set_option linter.unusedSimpArgs false
namespace Go.LX
variable {P : Program} {σ : St}
theorem op_sb [Glob] {o : Oper} {t' : Nat} {ty ty' e : TypeId} {x : Operand} {s : Ty.st.T} {N : St → Prop} (ho : o.op = .convert ty ty' x) (hd : o.dst = some t') (ht : Nat.blt t' σ.n = true) (hs : strTB P ty = true) (he : elemB P ty' = some e) (hu8 : isU8B P e = true) (hx : σ.ev x = .one (.d .st s)) (hml : List.length (α := UInt8) s ≤ maxLen)
    (hN : N (σ.over [(t', .one (.d (.sl .u8) s))] [])) : OpW P o N σ := by
  intro K w I g tm hi
  have hu : Act.eval ⟨tm, []⟩ x = strV s := by
    have h1 : [Act.eval ⟨tm, []⟩ x] = [strV s] := (hi.ev_one hx).1
    simpa using h1
  have hus : P.underlying ty = some .string := by
    unfold strTB at hs
    split at hs
    · assumption
    · cases hs
  have hud := elemB_ok he
  have hue : P.underlying e = some (.int .u8) := by
    unfold isU8B at hu8
    split at hu8
    · assumption
    · cases hu8
  have hrun : (execOp (Act.eval ⟨tm, []⟩) o).run P w = .ok (.value (.slice (some ⟨w.heap.size, 0, none⟩) s.length (grownCap w s.length 0 e))) (Lib.bytesWorld w e ⟨s.toArray⟩) := by
    have h2 := Lib.run_convert_string_bytes (P := P) w ty ty' e ⟨s.toArray⟩ hus hud hue
    have hsz : (ByteArray.mk s.toArray).size = s.length := by simp [ByteArray.size]
    rw [hsz] at h2
    have h3 : (convert ty ty' (strV s)).run P w = _ := h2
    simp only [execOp, ho, hu]
    simp [h3]
  obtain ⟨w', hw'⟩ : ∃ w', Lib.bytesWorld w e ⟨s.toArray⟩ = w' := ⟨_, rfl⟩
  have hold := fun j hj => Lib.bytesWorld_at_old w e ⟨s.toArray⟩ j hj
  have hsize := Lib.bytesWorld_size w e ⟨s.toArray⟩
  have hcell := fun j hj => Lib.bytesWorld_cell w e ⟨s.toArray⟩ j hj
  have h1 : (Lib.bytesWorld w e ⟨s.toArray⟩).os = w.os ∧ (Lib.bytesWorld w e ⟨s.toArray⟩).tape = w.tape ∧ (Lib.bytesWorld w e ⟨s.toArray⟩).output = w.output := by
    unfold Lib.bytesWorld World.freeze
    rw [if_neg (by decide)]
    exact ⟨rfl, rfl, rfl⟩
  rw [hw'] at hrun hold hsize hcell h1
  have hgr : Grow w w' fun _ => False := ⟨h1.1, h1.2.1, h1.2.2, by omega, fun b hb _ => hold b hb⟩
  have hi1 := hi.scrib hgr fun _ h => h.elim
  have hnew : Free K I g w.heap.size := free_new hi (Nat.le_refl _)
  have hi2 : Inv K w' (fun b => I b ∨ b = w.heap.size) g σ tm := hi1.widen (fun b hb => .inl hb) fun b hb => by
    rcases hb with hb | rfl
    · exact .inl hb
    · exact .inr ⟨hnew, by omega⟩
  rw [hrun]
  simp only [Oper.upon, Act.put, hd]
  refine ⟨trivial, _, (fun b => I b ∨ b = w.heap.size), g, hN, ?_⟩
  rw [← up_put]
  refine hi2.put (Nat.le_of_ble_eq_true ht) rfl fun i c hc => ?_
  obtain ⟨rfl, rfl⟩ := one_cell hc
  refine ⟨_, rfl, ?_⟩
  refine ⟨some ⟨w.heap.size, 0, none⟩, grownCap w s.length 0 e, rfl, grownCap_ge _ _ _ _, grownCap_le_maxLen _ _ _ _ hml, fun i y hy => ?_⟩
  have hlt := (List.getElem?_eq_some_iff.1 hy).1
  have hc := hcell i (by simpa [ByteArray.size] using hlt)
  refine ⟨w.heap.size, 0, [.int .u8 (y.toNat : Int)], rfl, ⟨.inr rfl, fun j u hj => ?_⟩, rfl⟩
  match j, hj with
  | 0, hj =>
    obtain rfl : Value.int .u8 (y.toNat : Int) = u := Option.some.inj hj
    have hg : (ByteArray.mk s.toArray).data.toList.getD i 0 = y := by
      show s.toArray.toList.getD i 0 = y
      rw [List.getD_eq_getElem?_getD]
      have : s.toArray.toList[i]? = some y := by simpa using hy
      rw [this]; rfl
    rw [hg] at hc
    simpa [Ty.w] using hc
  | j + 1, hj => simp at hj
end Go.LX
