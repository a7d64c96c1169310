/- Walks of layer 3 (crc): the document's texts with their sum behind; no condition. -/
import Derived.Test.YthmopkaecbebpaaE03
namespace Go.Proofs.Ythmopkaecbebpaa
open Go.RowKit Go.Peri
namespace C03
open C01
theorem ba_ext {a b : ByteArray} (h : a.data.toList = b.data.toList) : a = b := ByteArray.ext (Array.toList_inj.1 h)
theorem ba_list (a b : ByteArray) : (a ++ b).data.toList = a.data.toList ++ b.data.toList := by simp
theorem ba_len (a : ByteArray) : a.data.toList.length = a.size := Array.length_toList
theorem ext_list (s : ByteArray) (a c : Nat) : (s.extract a c).data.toList = (s.data.toList.drop a).take (c - a) := by
  rw [ByteArray.data_extract, Array.toList_extract, List.extract_eq_take_drop]
theorem ba_append_inj {a b c d : ByteArray} (h : a ++ b = c ++ d) (hs : a.size = c.size) : a = c ∧ b = d := by
  have h1 : a.data.toList ++ b.data.toList = c.data.toList ++ d.data.toList := by rw [← ba_list, ← ba_list, h]
  have h2 := List.append_inj h1 (by rw [ba_len, ba_len, hs])
  exact ⟨ba_ext h2.1, ba_ext h2.2⟩
theorem split4 (s : ByteArray) (n : Nat) (hn : s.size = n + 4) : s.extract 0 n ++ s.extract n (n + 4) = s := by
  apply ba_ext
  rw [ba_list, ext_list, ext_list, List.drop_zero, Nat.sub_zero]
  have h2 : (s.data.toList.drop n).take (n + 4 - n) = s.data.toList.drop n := List.take_of_length_le (by rw [List.length_drop, ba_len]; omega)
  rw [h2, List.take_append_drop]
theorem tail_iff (s t : ByteArray) (n : Nat) (hn : s.size = n + 4) : s.extract 0 n ++ t = s ↔ t = s.extract n (n + 4) := by
  constructor
  · intro h
    have h2 := h.trans (split4 s n hn).symm
    exact (ba_append_inj h2 rfl).2
  · rintro rfl
    exact split4 s n hn
theorem rseal_any (s : ByteArray) (w : World) (hs : s.size ≤ 1000000000) : Calls Try.prog 60 #[.string s] w fun e w' => e = .returned (.string (s ++ tailR s)) ∧ Below w.heap.size w w' := by
  have hof := rof_any s w hs
  have hput := rput_any (Crc.sum s.data.toList) 4 w (by have := Crc.sum_lt s.data.toList; omega)
  have hlt := Crc.sum_lt s.data.toList
  rw [put_tail] at hput
  dsimp only at hput
  generalize Crc.sum s.data.toList = m at hof hput hlt
  have ts := tailR_size s
  generalize tailR s = t at hput ts
  go_enter Try.func60, Try.ntmps60
  go_wp2_with fail
  refine hof.mono ?_
  rintro e w' ⟨rfl, rfl⟩
  go_wp2_with fail
  refine hput.mono ?_
  rintro e w' ⟨rfl, hb⟩
  have HB := hid hb
  clear hb
  go_wp2_with fail
  go_ret
  exact ⟨rfl, HB.out⟩
set_option maxRecDepth 100000 in
theorem ropen_any (s : ByteArray) (w : World) (hs : s.size ≤ 1000000000) : Calls Try.prog 56 #[.string s] w fun e w' => e = .returned (.tuple #[.string (openR s).1, .int .i64 (openR s).2]) ∧ Below w.heap.size w w' := by
  by_cases h4 : s.size < 4
  · have hr : Hid (openR s = (ByteArray.empty, 5)) := by show _ = _; unfold openR; rw [if_pos h4]
    go_enter Try.func56, Try.ntmps56
    go_wp2_with fail
    go_ret2
    exact ⟨by rw [hr.out]; rfl, Below.refl _ _⟩
  obtain ⟨n, hn⟩ : ∃ n, s.size = n + 4 := ⟨s.size - 4, by omega⟩
  have e4 : s.size - 4 = n := by omega
  have hz : (s.extract 0 n).size = n := by rw [ByteArray.size_extract]; omega
  have HT := hid (fun w => rseal_any (s.extract 0 n) w (by omega))
  have hi := tail_iff s (tailR (s.extract 0 n)) n hn
  rw [← hn] at hi
  by_cases he : tailR (s.extract 0 n) = s.extract n s.size
  · have hr : Hid (openR s = (s.extract 0 n, 0)) := by show _ = _; unfold openR; rw [if_neg h4, e4, if_pos he]
    have hd : ((s.extract 0 n ++ tailR (s.extract 0 n)).toList == s.toList) = true := by rw [bytes_beq]; simpa using hi.2 he
    clear h4 he e4 hi
    generalize s.extract 0 n ++ tailR (s.extract 0 n) = t at HT hd
    go_enter Try.func56, Try.ntmps56
    go_wp2_with fail
    refine (HT.out _).mono ?_
    rintro e w3 ⟨rfl, hb3⟩
    have HB3 := hid hb3
    clear hb3
    go_wp2_with fail
    go_ret2
    exact ⟨by rw [hr.out]; rfl, HB3.out⟩
  · have hr : Hid (openR s = (ByteArray.empty, 4)) := by show _ = _; unfold openR; rw [if_neg h4, e4, if_neg he]
    have hd : ((s.extract 0 n ++ tailR (s.extract 0 n)).toList == s.toList) = false := by rw [bytes_beq]; simpa using fun h => he (hi.1 h)
    clear h4 he e4 hi
    generalize s.extract 0 n ++ tailR (s.extract 0 n) = t at HT hd
    go_enter Try.func56, Try.ntmps56
    go_wp2_with fail
    refine (HT.out _).mono ?_
    rintro e w3 ⟨rfl, hb3⟩
    have HB3 := hid hb3
    clear hb3
    go_wp2_with fail
    go_ret2
    exact ⟨by rw [hr.out]; rfl, HB3.out⟩
end C03
end Go.Proofs.Ythmopkaecbebpaa
