/- A box's nil slice, told as an owned slice without rows. -/
import Derived.Test.YtbebnlhgnbnjoaaLxStoD
set_option linter.unusedVariables false
set_option linter.unusedSimpArgs false
namespace Go.LX
section
variable {σ : St}
def St.ownNl (σ : St) (q id j : Nat) (e : TypeId) (t : Ty) (cs : List C) : St := (σ.setO id (.rows e t true [])).setO q (.cells (cs.set j (.rf id .ar)))
theorem Wk_nl [Glob] {q id j : Nat} (e : TypeId) (t : Ty) {cs : List C} (hq : σ.objs q = some (.cells cs)) (hj : cs[j]? = some .nl) (hid : σ.objs id = none) (h1000 : Nat.ble 1000 id = true) : Wk σ (σ.ownNl q id j e t cs) := by
  intro K w I g tm hi
  have hid' : (1000 : Nat) ≤ id := Nat.le_of_ble_eq_true h1000
  have hn := hi.newRows (o := id) (e := e) (t := t) (dp := true) (xs := []) (v := .slice none 0 0) (L := []) hid (fun v hv => absurd hv ((hi.noE' hid').2 v)) (hi.noE' hid').1 List.nodup_nil (fun _ h => by simp at h)
    ⟨[], [], ⟨by simp, .inl ⟨rfl, rfl⟩⟩, ⟨rfl, rfl⟩, rfl⟩
  have hne : q ≠ id := fun he => by rw [he, hid] at hq; cases hq
  have hq' : (σ.setO id (.rows e t true [])).objs q = some (.cells cs) := by rw [St.setO_other _ _ _ _ hne]; exact hq
  obtain ⟨hL, hbx⟩ := hn.cells hq'
  refine ⟨I, _, hn.tellBox hq' (by simp) fun i c hc => ?_⟩
  by_cases e : i = j
  · subst e
    obtain ⟨u, h1, _, _, _, h5⟩ := hbx i .nl hj
    refine ⟨u, h1, ?_⟩
    have hlt : i < cs.length := (List.getElem?_eq_some_iff.1 hj).1
    rw [List.getElem?_set_self (by simpa using hlt)] at hc
    cases hc
    show seeO _ _ _ _ _ ((σ.setO id _).objs id) _ _
    rw [St.setO_same, Gh.setO_eq.2.1]
    exact h5
  · rw [List.getElem?_set_ne (Ne.symm e)] at hc
    obtain ⟨u, h1, _, _, _, h5⟩ := hbx i c hc
    exact ⟨u, h1, h5⟩
end
end Go.LX
