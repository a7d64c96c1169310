/- Walks of layer 25 (buffer): the law on spans taken in two pieces; no condition. -/
import Derived.Test.YtefaegoajjcfjaaI25
namespace Go.Proofs.Ytefaegoajjcfjaa
open Go.RowKit Go.Peri
namespace C25

set_option maxRecDepth 100000 in
set_option maxHeartbeats 4000000 in
theorem pieces_bad (room : Int) (v : Value) (l : List Sp) (m n : Int) (W : World) (h : RowsOf (· < W.heap.size) Sp.enc 11 W v l) (hbad : ¬ (l.length ≤ 200 ∧ 0 ≤ m ∧ m ≤ 1000 ∧ 0 ≤ n ∧ n ≤ 1000)) :
    Calls Try.prog 14 #[.int .i64 room, v, .agg #[.int .i64 m, .int .i64 n]] W fun e w' => e = .returned (.bool true) ∧ Below W.heap.size W w' := by
  obtain ⟨a, cap, rfl, hlc, hcm, _⟩ := h
  have HW0 : Hid (Below W.heap.size W (W.alloc (.cells #[.int .i64 m, .int .i64 n] 91))) := (Below.refl _ W).alloc (Nat.le_refl _) _
  by_cases h1 : 200 < l.length
  · have h1' : (200 : Int) < (l.length : Int) := by omega
    clear hbad
    go_enter Try.func14, Try.ntmps14
    go_wp2_with fail
    refine (known_any _).mono ?_
    rintro e w1 ⟨rfl, hb1⟩
    have HB1 := hid (HW0.out.trans (hb1.mono HW0.out.size))
    clear hb1
    go_wp2_with fail
    go_ret
    exact ⟨rfl, HB1.out⟩
  have h1' : ¬ (200 : Int) < (l.length : Int) := by omega
  by_cases h2 : m < 0
  · clear hbad
    go_enter Try.func14, Try.ntmps14
    go_wp2_with fail
    refine (known_any _).mono ?_
    rintro e w1 ⟨rfl, hb1⟩
    have HB1 := hid (HW0.out.trans (hb1.mono HW0.out.size))
    clear hb1
    go_wp2_with fail
    go_ret
    exact ⟨rfl, HB1.out⟩
  by_cases h3 : 1000 < m
  · clear hbad
    go_enter Try.func14, Try.ntmps14
    go_wp2_with fail
    refine (known_any _).mono ?_
    rintro e w1 ⟨rfl, hb1⟩
    have HB1 := hid (HW0.out.trans (hb1.mono HW0.out.size))
    clear hb1
    go_wp2_with fail
    go_ret
    exact ⟨rfl, HB1.out⟩
  by_cases h4 : n < 0
  · clear hbad
    go_enter Try.func14, Try.ntmps14
    go_wp2_with fail
    refine (known_any _).mono ?_
    rintro e w1 ⟨rfl, hb1⟩
    have HB1 := hid (HW0.out.trans (hb1.mono HW0.out.size))
    clear hb1
    go_wp2_with fail
    go_ret
    exact ⟨rfl, HB1.out⟩
  by_cases h5 : 1000 < n
  · clear hbad
    go_enter Try.func14, Try.ntmps14
    go_wp2_with fail
    refine (known_any _).mono ?_
    rintro e w1 ⟨rfl, hb1⟩
    have HB1 := hid (HW0.out.trans (hb1.mono HW0.out.size))
    clear hb1
    go_wp2_with fail
    go_ret
    exact ⟨rfl, HB1.out⟩
  exact absurd ⟨by omega, by omega, by omega, by omega, by omega⟩ hbad

end C25
end Go.Proofs.Ytefaegoajjcfjaa
