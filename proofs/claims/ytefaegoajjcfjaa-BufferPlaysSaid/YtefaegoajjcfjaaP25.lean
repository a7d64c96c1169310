/- Plain facts of layer 25 (buffer): taken in two pieces. No program in sight. -/
import Derived.Test.YtefaegoajjcfjaaSp
namespace Go.Peri
theorem pieces_take {α : Type} (l : List α) (m n : Nat) : l.take m ++ (l.drop m).take n = l.take (m + n) := by rw [List.take_add]
theorem pieces_drop {α : Type} (l : List α) (m n : Nat) : (l.drop m).drop n = l.drop (m + n) := by rw [List.drop_drop]
def takeN {α : Type} (n : Int) (l : List α) : Nat := (max 0 (min n l.length)).toNat
theorem takeN_nat {α : Type} (n : Nat) (l : List α) : takeN (n : Int) l = min n l.length := by unfold takeN; omega
theorem takeN_two {α : Type} (m n : Int) (l : List α) (hm : 0 ≤ m) (hn : 0 ≤ n) : takeN m l + takeN n (l.drop (takeN m l)) = takeN (m + n) l := by
  obtain ⟨a, rfl⟩ := Int.eq_ofNat_of_zero_le hm
  obtain ⟨b, rfl⟩ := Int.eq_ofNat_of_zero_le hn
  have e : ((a : Int) + (b : Int)) = ((a + b : Nat) : Int) := by omega
  rw [e, takeN_nat, takeN_nat, takeN_nat, List.length_drop]
  omega
end Go.Peri
