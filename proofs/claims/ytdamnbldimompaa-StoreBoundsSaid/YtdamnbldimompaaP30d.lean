/- Plain law of layer 30 (store): spans lie with those of their trace. No program in sight. -/
import Derived.Test.YtdamnbldimompaaP30c
namespace Go.Peri
namespace Kp
/-- Each span is of the trace in which it lies. -/
def Own (kl : List Kp) : Prop := ∀ k ∈ kl, ∀ x ∈ k.sp, x.hi = k.hi ∧ x.lo = k.lo
theorem own_nil : Own [] := by intro k hk; simp at hk
theorem own_add {kl : List Kp} (h : Own kl) (r : Int) (s : Sp) : Own (add kl r s) := by
  intro k hk x hx
  unfold add at hk
  split at hk
  · rename_i hi2
    rcases List.mem_or_eq_of_mem_set hk with hk | rfl
    · exact h k hk x hx
    · rw [put_hi, put_lo]
      have ha := at_ix hi2
      have hm := List.getElem_mem hi2
      unfold put at hx
      split at hx
      · exact h _ hm x hx
      · split at hx
        · exact h _ hm x hx
        · rcases List.mem_append.1 hx with hx | hx
          · exact h _ hm x hx
          · rw [List.mem_singleton.1 hx]
            exact ⟨ha.1.symm, ha.2.symm⟩
  · rcases List.mem_append.1 (List.mem_of_mem_drop hk) with hk | hk
    · exact h k hk x hx
    · rw [List.mem_singleton.1 hk] at hx ⊢
      rw [List.mem_singleton.1 hx]
      exact ⟨rfl, rfl⟩
theorem get_mem {kl : List Kp} {hi lo : Nat} (h : has kl hi lo = true) : get kl hi lo ∈ kl ∧ (get kl hi lo).hi = hi ∧ (get kl hi lo).lo = lo := by
  have hx : ix kl hi lo < kl.length := of_decide_eq_true h
  unfold get
  rw [dif_pos hx]
  exact ⟨List.getElem_mem hx, at_ix hx⟩
theorem again' {kl : List Kp} {r : Int} {hi lo : Nat} (h : has kl hi lo = true) (ho : Own kl) (s : Sp) (h0 : 0 < (get kl hi lo).sp.length) (hs : s = (get kl hi lo).sp[0]) : add kl r s = kl ∧ gone kl r s = 0 := by
  have hx : ix kl hi lo < kl.length := of_decide_eq_true h
  have hg : get kl hi lo = kl[ix kl hi lo] := by unfold get; rw [dif_pos hx]
  have hm := get_mem h
  have hso := ho _ hm.1 s (by rw [hs]; exact List.getElem_mem _)
  refine again hx s ⟨by rw [← hg]; exact h0, ?_⟩ (hso.1.trans hm.2.1) (hso.2.trans hm.2.2)
  rw [hs]
  simp only [hg]
/-- What a store is, behind any spans. -/
structure Good (room : Int) (kl : List Kp) : Prop where
  inv : Inv kl room
  own : Own kl
theorem good_nil (room : Int) : Good room [] := ⟨inv_nil _, own_nil⟩
theorem good_add {room : Int} {kl : List Kp} (h : Good room kl) (s : Sp) : Good room (add kl room s) := ⟨inv_add h.inv s, own_add h.own room s⟩
theorem room_int (room : Int) : ((roomR room : Nat) : Int) = max 1 (min room 32) := by
  unfold roomR
  omega
end Kp
end Go.Peri
