/- Walks of layer 4 (head): headers without some names; no condition. -/
import Derived.Test.YthmopkaecbebpaaE04
import Derived.Test.YthmopkaecbebpaaCl
namespace Go.Peri
namespace Hd
def hasN (ns : List ByteArray) (h : Hd) : Bool := ns.any (fun x => decide (x = h.name))
def ixN (l : List Hd) (ns : List ByteArray) : Nat := l.findIdx (hasN ns)
def atN (l : List Hd) (ns : List ByteArray) : Int := if ixN l ns < l.length then ixN l ns else -1
theorem outR_hasN (l : List Hd) (ns : List ByteArray) : outR l ns = l.filter (fun h => !hasN ns h) := rfl
theorem ixN_hit {l : List Hd} {ns : List ByteArray} {k : Nat} (hk : k < l.length) (h1 : hasN ns l[k] = true) (h2 : ∀ j (_ : j < k) (hj : j < l.length), hasN ns l[j] = false) : ixN l ns = k := by
  unfold ixN
  rw [List.findIdx_eq hk]
  exact ⟨h1, fun j hj => by simpa using h2 j hj (by omega)⟩
theorem ixN_none {l : List Hd} {ns : List ByteArray} (h2 : ∀ j (_ : j < l.length) (hj : j < l.length), hasN ns l[j] = false) : ¬ ixN l ns < l.length := by
  intro h
  have := List.findIdx_getElem (w := h)
  have h3 := h2 _ h h
  unfold ixN at h3
  rw [this] at h3
  exact absurd h3 (by simp)
theorem out_none {l : List Hd} {ns : List ByteArray} (h : ¬ ixN l ns < l.length) : outR l ns = l := by
  rw [outR_hasN, List.filter_eq_self]
  intro x hx
  have hl : ixN l ns = l.length := by have : ixN l ns ≤ l.length := List.findIdx_le_length; omega
  obtain ⟨i, hi, rfl⟩ := List.getElem_of_mem hx
  have := List.not_of_lt_findIdx (p := hasN ns) (xs := l) (i := i) (by unfold ixN at hl; omega)
  simpa using this
theorem out_first {l : List Hd} {ns : List ByteArray} (h : ixN l ns < l.length) : outR (l.take (ixN l ns + 1)) ns = l.take (ixN l ns) := by
  have hit : hasN ns l[ixN l ns] = true := List.findIdx_getElem (w := h)
  rw [List.take_succ_eq_append_getElem h, outR_snoc]
  have : (ns.any fun x => decide (x = l[ixN l ns].name)) = true := hit
  rw [if_pos this, outR_hasN, List.filter_eq_self]
  intro x hx
  obtain ⟨i, hi, rfl⟩ := List.getElem_of_mem hx
  rw [List.length_take] at hi
  rw [List.getElem_take]
  have := List.not_of_lt_findIdx (p := hasN ns) (xs := l) (i := i) (by unfold ixN at hi; omega)
  simpa using this
end Hd
end Go.Peri
namespace Go.Proofs.Ythmopkaecbebpaa
open Go.RowKit Go.Peri
namespace C04
theorem s_cell {w : World} {b off : Nat} {l : List ByteArray} (hc : ∀ i (hi : i < l.length) j u, (sEnc l[i])[j]? = some u → w.cell? ⟨b, off + i * 1 + j, none⟩ = some u) (k : Nat) (hk : k < l.length) : w.cell? ⟨b, off + k, none⟩ = some (.string l[k]) := by
  have := hc k hk 0 _ rfl
  simpa using this

set_option maxRecDepth 100000 in
theorem contains_any {p : Nat → Prop} (v : Value) (ns : List ByteArray) (s : ByteArray) (r : Bool) (W : World) (h : RowsOf p sEnc 1 W v ns) (hl : ns.length ≤ 1000000000000) (hr : ns.any (fun x => decide (x = s)) = r) :
    Calls Try.prog 185 #[v, .string s] W fun e w' => e = .returned (.bool r) ∧ W = w' := by
  have HIX : Hid (Calls Try.prog 195 #[v, .string s] W fun e w' => (∃ i : Int, e = .returned (.int .i64 i) ∧ (0 ≤ i ↔ r = true) ∧ -1 ≤ i ∧ i ≤ 1000000000000) ∧ W = w') := by
    show Calls _ _ _ _ _
    obtain ⟨a, cap, rfl, hlc, hcm, _, hcell⟩ := h
    have HC := hid hcell
    have HR := hid hr
    clear hcell hr
    go_enter Try.func195, Try.ntmps195
    go_wp2_with fail
    go_loopw [8] (fun i wr => W = wr ∧ ∃ k : Nat, k ≤ ns.length ∧ i = .int .i64 k ∧ ∀ j (_ : j < k) (hj : j < ns.length), ns[j] ≠ s) (fun i _ => ns.length - (intOf i).toNat)
    case atStart => exact ⟨rfl, 0, Nat.zero_le _, rfl, fun j hj => absurd hj (Nat.not_lt_zero _)⟩
    case round =>
      obtain ⟨rfl, k, hk, rfl, hno⟩ := hrel
      have HN := hid hno
      clear hno
      by_cases hlt : k < ns.length
      · obtain ⟨b, off, rfl, hpb, hc⟩ := HC.out.resolve_left (by intro e; rw [e] at hlt; simp at hlt)
        have c0 := s_cell hc k hlt
        obtain ⟨bq, hq⟩ : ∃ bq, decide (s = ns[k]) = bq := ⟨_, rfl⟩
        obtain ⟨s1, s2⟩ := strEq_of hq
        have HNext : Hid (bq = false → ∀ j (_ : j < k + 1) (hj : j < ns.length), ns[j] ≠ s) := by
          intro e j hj hjl
          by_cases e2 : j = k
          · subst e2; rw [e] at hq; exact fun h => of_decide_eq_false hq h.symm
          · exact HN.out j (by omega) hjl
        have HHit : Hid (bq = true → r = true) := fun e => by
          rw [e] at hq
          rw [← HR.out, List.any_eq_true]
          exact ⟨ns[k], List.getElem_mem hlt, by simpa using (of_decide_eq_true hq).symm⟩
        clear hc hq
        generalize ns[k] = y at c0 s1 s2
        cases bq
        · go_wp2_with fail
          go_roundw
          case rel => exact ⟨by first | rfl | trivial, k + 1, by omega, by go_num, HNext.out (by simp)⟩
          case measure => simp [intOf]; omega
        · go_wp2_with fail
          go_ret
          exact ⟨⟨k, rfl, by simp [HHit.out (by simp)], by omega, by omega⟩, rfl⟩
      · obtain rfl : k = ns.length := by omega
        have hd : Hid (r = false) := hid (by
          rw [← HR.out, List.any_eq_false]
          intro x hx
          obtain ⟨i, hi, rfl⟩ := List.getElem_of_mem hx
          simpa using HN.out i hi hi)
        go_wp2_with fail
        go_ret
        exact ⟨⟨-1, rfl, by simp [hd.out], by omega, by omega⟩, rfl⟩
  clear h hr
  go_enter Try.func185, Try.ntmps185
  go_wp2_with fail
  refine HIX.out.mono ?_
  rintro e w' ⟨⟨i, rfl, hi, _, _⟩, rfl⟩
  have HI := hid hi
  clear hi
  by_cases h0 : 0 ≤ i
  · have hr := hid (HI.out.1 h0)
    go_wp2_with fail
    go_ret
    exact ⟨by rw [hr.out]; rfl, rfl⟩
  · have hr : Hid (r = false) := hid (by
      cases r
      · rfl
      · exact absurd (HI.out.2 rfl) h0)
    go_wp2_with fail
    go_ret
    exact ⟨by rw [hr.out]; exact ret_bool (decide_eq_false (by omega)), rfl⟩

end C04
end Go.Proofs.Ythmopkaecbebpaa
