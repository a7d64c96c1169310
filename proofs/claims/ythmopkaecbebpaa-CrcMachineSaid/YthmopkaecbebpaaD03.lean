/- Walks of layer 3 (crc): texts with their sum behind; no condition. -/
import Derived.Test.YthmopkaecbebpaaC03
import Derived.Test.YthmopkaecbebpaaP04b
namespace Go.Proofs.Ythmopkaecbebpaa
open Go.RowKit Go.Peri
namespace C03
open C01
/-- The bytes of a sum. -/
def tailR (s : ByteArray) : ByteArray := ofNats (Oct.dg 256 (Crc.sum s.data.toList) 4)
theorem tailR_size (s : ByteArray) : (tailR s).size = 4 := by unfold tailR; rw [ofNats_size, Oct.dg_length]
theorem put_tail (s : ByteArray) : putR (Crc.sum s.data.toList) 4 = (tailR s, 0) := by
  have := Crc.sum_lt s.data.toList
  unfold putR
  rw [if_pos (by decide), if_pos (by simpa using this)]
  rfl
theorem tail_any (s : ByteArray) (w : World) (hs : s.size ≤ 1000000000) : Calls Try.prog 97 #[.string s] w fun e w' => e = .returned (.string (tailR s)) ∧ Below w.heap.size w w' := by
  have hof := of_any s w hs
  have hput := put_any (Crc.sum s.data.toList) 4 w (by have := Crc.sum_lt s.data.toList; omega)
  have hlt := Crc.sum_lt s.data.toList
  rw [put_tail] at hput
  dsimp only at hput
  generalize Crc.sum s.data.toList = m at hof hput hlt
  have ts := tailR_size s
  generalize tailR s = t at hput ts
  go_enter Try.func97, Try.ntmps97
  go_wp2_with fail
  refine hof.mono ?_
  rintro e w' ⟨rfl, rfl⟩
  go_wp2_with fail
  refine hput.mono ?_
  rintro e w' ⟨rfl, hb⟩
  have HB := hid hb
  clear hb
  go_wp2_with fail
  go_ret
  exact ⟨rfl, HB.out⟩
theorem seal_any (s : ByteArray) (w : World) (hs : s.size ≤ 1000000000) : Calls Try.prog 59 #[.string s] w fun e w' => e = .returned (.string (s ++ tailR s)) ∧ Below w.heap.size w w' := by
  have ht := tail_any s w hs
  have ts := tailR_size s
  generalize tailR s = t at ht ts
  go_enter Try.func59, Try.ntmps59
  go_wp2_with fail
  refine ht.mono ?_
  rintro e w' ⟨rfl, hb⟩
  have HB := hid hb
  clear hb
  go_wp2_with fail
  go_ret
  exact ⟨rfl, HB.out⟩
/-- A text without its sum. -/
def openR (s : ByteArray) : ByteArray × Int :=
  if s.size < 4 then (ByteArray.empty, 5) else if tailR (s.extract 0 (s.size - 4)) = s.extract (s.size - 4) s.size then (s.extract 0 (s.size - 4), 0) else (ByteArray.empty, 4)
set_option maxRecDepth 100000 in
theorem open_any (s : ByteArray) (w : World) (hs : s.size ≤ 1000000000) : Calls Try.prog 55 #[.string s] w fun e w' => e = .returned (.tuple #[.string (openR s).1, .int .i64 (openR s).2]) ∧ Below w.heap.size w w' := by
  by_cases h4 : s.size < 4
  · have hr : Hid (openR s = (ByteArray.empty, 5)) := by show _ = _; unfold openR; rw [if_pos h4]
    go_enter Try.func55, Try.ntmps55
    go_wp2_with fail
    go_ret2
    exact ⟨by rw [hr.out]; rfl, Below.refl _ _⟩
  obtain ⟨n, hn⟩ : ∃ n, s.size = n + 4 := ⟨s.size - 4, by omega⟩
  have e4 : s.size - 4 = n := by omega
  have hz : (s.extract 0 n).size = n := by rw [ByteArray.size_extract]; omega
  have hz2 : (s.extract n s.size).size = 4 := by rw [ByteArray.size_extract]; omega
  have HT := hid (fun w => tail_any (s.extract 0 n) w (by omega))
  by_cases he : tailR (s.extract 0 n) = s.extract n s.size
  · have hr : Hid (openR s = (s.extract 0 n, 0)) := by show _ = _; unfold openR; rw [if_neg h4, e4, if_pos he]
    have hd : ((tailR (s.extract 0 n)).toList == (s.extract n (n + 4)).toList) = true := by rw [bytes_beq, ← hn]; simpa using he
    clear h4 he e4
    go_enter Try.func55, Try.ntmps55
    go_wp2_with fail
    refine wp_region_bw (by kernel_rfl) (by kernel_rfl) ?_
    repeat (go_big_quiet_step ((go_at_call 97; exact bw_call (HT.out _))))
    refine wpQuiet_nil ?_
    rintro _ ⟨⟨w3, hb3⟩, rfl⟩
    have HB3 := hid hb3
    clear hb3
    go_wp2_with fail
    go_ret2
    exact ⟨by rw [hr.out]; rfl, HB3.out⟩
  · have hr : Hid (openR s = (ByteArray.empty, 4)) := by show _ = _; unfold openR; rw [if_neg h4, e4, if_neg he]
    have hd : ((tailR (s.extract 0 n)).toList == (s.extract n (n + 4)).toList) = false := by rw [bytes_beq, ← hn]; simpa using he
    clear h4 he e4
    go_enter Try.func55, Try.ntmps55
    go_wp2_with fail
    refine wp_region_bw (by kernel_rfl) (by kernel_rfl) ?_
    repeat (go_big_quiet_step ((go_at_call 97; exact bw_call (HT.out _))))
    refine wpQuiet_nil ?_
    rintro _ ⟨⟨w3, hb3⟩, rfl⟩
    have HB3 := hid hb3
    clear hb3
    go_wp2_with fail
    go_ret2
    exact ⟨by rw [hr.out]; rfl, HB3.out⟩
end C03
end Go.Proofs.Ythmopkaecbebpaa
