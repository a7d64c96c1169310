/- Walks of layer 6 (ids): numbers as texts and texts as numbers; no condition. -/
import Derived.Test.YtpamnknfccmgcaaM01
namespace Go.Proofs.Ytpamnknfccmgcaa
open Go.RowKit Go.Peri
namespace C06
open C01

/-- A number's sixteen digits. -/
def txt (n : Nat) : ByteArray := ofNats ((Oct.dg 16 n 16).map hexd)
theorem txt_size (n : Nat) : (txt n).size = 16 := by unfold txt; rw [ofNats_size, List.length_map, Oct.dg_length]
theorem hex_txt (n : Nat) (hn : n < 18446744073709551616) : hexR n 16 = (txt n, 0) := by
  unfold hexR; rw [if_pos (by omega), show (16 : Int).toNat = 16 from rfl, if_pos (by omega)]; rfl

set_option maxRecDepth 100000 in
theorem spanText (n : Nat) (W : World) (hn : n < 18446744073709551616) : Calls Try.prog 138 #[.int .u64 n] W fun e w' => e = .returned (.string (txt n)) ∧ Below W.heap.size W w' := by
  have H1 := hid (hex_txt n hn)
  go_enter Try.func138, Try.ntmps138
  go_wp2_with fail
  refine (hex_val n 16 _ _ _ hn H1.out).mono ?_
  rintro e w1 ⟨rfl, hb1⟩
  have HB1 := hid hb1
  clear hb1
  go_wp2_with fail
  go_ret
  exact ⟨rfl, HB1.out⟩

set_option maxRecDepth 100000 in
theorem rspanText (n : Nat) (W : World) (hn : n < 18446744073709551616) : Calls Try.prog 142 #[.int .u64 n] W fun e w' => e = .returned (.string (txt n)) ∧ Below W.heap.size W w' := by
  have H1 := hid (hex_txt n hn)
  go_enter Try.func142, Try.ntmps142
  go_wp2_with fail
  refine (rhex_val n 16 _ _ _ hn H1.out).mono ?_
  rintro e w1 ⟨rfl, hb1⟩
  have HB1 := hid hb1
  clear hb1
  go_wp2_with fail
  go_ret
  exact ⟨rfl, (by have := HB1.out; subst this; exact Below.refl _ _)⟩

set_option maxRecDepth 100000 in
theorem text_any (hi lo : Nat) (W : World) (h1 : hi < 18446744073709551616) (h2 : lo < 18446744073709551616) :
    Calls Try.prog 137 #[.agg #[.int .u64 hi, .int .u64 lo]] W fun e w' => e = .returned (.string (txt hi ++ txt lo)) ∧ Below W.heap.size W w' := by
  have s1 := txt_size hi
  have s2 := txt_size lo
  have E1 : ∀ W, Calls Try.prog 138 #[.int .u64 hi] W fun e w' => e = .returned (.string (txt hi)) ∧ Below W.heap.size W w' := fun W => spanText hi W h1
  have E2 : ∀ W, Calls Try.prog 138 #[.int .u64 lo] W fun e w' => e = .returned (.string (txt lo)) ∧ Below W.heap.size W w' := fun W => spanText lo W h2
  have HE1 := hid E1
  have HE2 := hid E2
  clear E1 E2
  generalize txt hi = a at s1 HE1 ⊢
  generalize txt lo = b at s2 HE2 ⊢
  have HB0 : Hid (Below W.heap.size W (W.alloc (.cells #[.int .u64 hi, .int .u64 lo] 42))) := by show Below _ _ _; go_grown
  go_enter Try.func137, Try.ntmps137
  go_wp2_with fail
  refine wp_region_bw (by kernel_rfl) (by kernel_rfl) ?_
  go_big_quiet_step ((go_at_call 138; exact bw_call (HE1.out _)))
  go_big_quiet_step ((go_at_call 138; exact bw_call (HE1.out _)))
  go_big_quiet_step ((go_at_call 138; exact bw_call (HE1.out _)))
  repeat (go_big_quiet_step ((go_at_call 138; exact bw_call (HE2.out _))))
  refine wpQuiet_nil ?_
  rintro _ ⟨⟨w2, hb2⟩, rfl⟩
  have HB2 := hid hb2
  clear hb2
  go_wp2_with fail
  go_ret
  exact ⟨rfl, HB0.out.trans (HB2.out.mono (by simp))⟩

set_option maxRecDepth 100000 in
theorem rtext_any (hi lo : Nat) (W : World) (h1 : hi < 18446744073709551616) (h2 : lo < 18446744073709551616) :
    Calls Try.prog 141 #[.agg #[.int .u64 hi, .int .u64 lo]] W fun e w' => e = .returned (.string (txt hi ++ txt lo)) ∧ Below W.heap.size W w' := by
  have s1 := txt_size hi
  have s2 := txt_size lo
  have E1 : ∀ W, Calls Try.prog 142 #[.int .u64 hi] W fun e w' => e = .returned (.string (txt hi)) ∧ Below W.heap.size W w' := fun W => rspanText hi W h1
  have E2 : ∀ W, Calls Try.prog 142 #[.int .u64 lo] W fun e w' => e = .returned (.string (txt lo)) ∧ Below W.heap.size W w' := fun W => rspanText lo W h2
  have HE1 := hid E1
  have HE2 := hid E2
  clear E1 E2
  generalize txt hi = a at s1 HE1 ⊢
  generalize txt lo = b at s2 HE2 ⊢
  have HB0 : Hid (Below W.heap.size W (W.alloc (.cells #[.int .u64 hi, .int .u64 lo] 42))) := by show Below _ _ _; go_grown
  go_enter Try.func141, Try.ntmps141
  go_wp2_with fail
  refine wp_region_bw (by kernel_rfl) (by kernel_rfl) ?_
  go_big_quiet_step ((go_at_call 142; exact bw_call (HE1.out _)))
  go_big_quiet_step ((go_at_call 142; exact bw_call (HE1.out _)))
  go_big_quiet_step ((go_at_call 142; exact bw_call (HE1.out _)))
  repeat (go_big_quiet_step ((go_at_call 142; exact bw_call (HE2.out _))))
  refine wpQuiet_nil ?_
  rintro _ ⟨⟨w2, hb2⟩, rfl⟩
  have HB2 := hid hb2
  clear hb2
  go_wp2_with fail
  go_ret
  exact ⟨rfl, HB0.out.trans (HB2.out.mono (by simp))⟩

def halfR (s : ByteArray) : Nat × Bool := ((unhexR s).1, (unhexR s).2 == 0 && decide (s.size = 16))
set_option maxRecDepth 100000 in
theorem half_any (s : ByteArray) (W : World) (hs : s.size ≤ 1000000000000000) :
    Calls Try.prog 190 #[.string s] W fun e w' => e = .returned (.tuple #[.int .u64 (halfR s).1, .bool (halfR s).2]) ∧ W = w' := by
  obtain ⟨a, b, hr⟩ : ∃ a b, unhexR s = (a, b) := ⟨_, _, rfl⟩
  have H1 := hid hr
  have hh : Hid (halfR s = (a, b == 0 && decide (s.size = 16))) := by show _ = _; unfold halfR; rw [hr]
  clear hr
  by_cases hb : b = 0
  · subst hb
    by_cases h16 : s.size = 16
    · have H16 := hid h16
      have h16' : ((s.size : Int) == 16) = true := by simp [h16]
      clear h16
      go_enter Try.func190, Try.ntmps190
      go_wp2_with fail
      refine (unhex_val s _ _ _ hs H1.out).mono ?_
      rintro e w1 ⟨rfl, rfl⟩
      go_wp2_with fail
      go_ret2
      exact ⟨by rw [hh.out]; simp [H16.out], rfl⟩
    · have H16 := hid h16
      have h16' : ((s.size : Int) == 16) = false := by simp; omega
      clear h16
      go_enter Try.func190, Try.ntmps190
      go_wp2_with fail
      refine (unhex_val s _ _ _ hs H1.out).mono ?_
      rintro e w1 ⟨rfl, rfl⟩
      go_wp2_with fail
      go_ret2
      exact ⟨by rw [hh.out]; simp [H16.out], rfl⟩
  · have HBn := hid hb
    go_enter Try.func190, Try.ntmps190
    go_wp2_with fail
    refine (unhex_val s _ _ _ hs H1.out).mono ?_
    rintro e w1 ⟨rfl, rfl⟩
    go_wp2_with fail
    go_ret2
    exact ⟨by rw [hh.out]; simp [HBn.out], rfl⟩

def spanOfR (s : ByteArray) : Nat × Int := if s.size = 16 ∧ (unhexR s).2 = 0 then (if (unhexR s).1 = 0 then (0, 11) else ((unhexR s).1, 0)) else (0, 3)
set_option maxRecDepth 100000 in
theorem spanOf_any (s : ByteArray) (W : World) (hs : s.size ≤ 1000000000000000) :
    Calls Try.prog 129 #[.string s] W fun e w' => e = .returned (.tuple #[.int .u64 (spanOfR s).1, .int .i64 (spanOfR s).2]) ∧ W = w' := by
  have htx := half_any s
  by_cases h : s.size = 16 ∧ (unhexR s).2 = 0
  · have hh : halfR s = ((unhexR s).1, true) := by unfold halfR; rw [h.2]; simp [h.1]
    by_cases hz : (unhexR s).1 = 0
    · have hr : Hid (spanOfR s = (0, 11)) := by show _ = _; unfold spanOfR; rw [if_pos h, if_pos hz]
      have htx := fun W => htx W hs
      rw [hh, hz] at htx
      have HT := hid htx
      clear htx h hz hh
      go_enter Try.func129, Try.ntmps129
      go_wp2_with fail
      refine (HT.out _).mono ?_
      rintro e w1 ⟨rfl, rfl⟩
      go_wp2_with fail
      go_ret2
      exact ⟨by rw [hr.out]; rfl, rfl⟩
    · have hr : Hid (spanOfR s = ((unhexR s).1, 0)) := by show _ = _; unfold spanOfR; rw [if_pos h, if_neg hz]
      have htx := fun W => htx W hs
      rw [hh] at htx
      have HT := hid htx
      clear htx h hh
      generalize (unhexR s).1 = m at hz HT hr
      go_enter Try.func129, Try.ntmps129
      go_wp2_with fail
      refine (HT.out _).mono ?_
      rintro e w1 ⟨rfl, rfl⟩
      go_wp2_with fail
      go_ret2
      exact ⟨by rw [hr.out]; rfl, rfl⟩
  · have hr : Hid (spanOfR s = (0, 3)) := by show _ = _; unfold spanOfR; rw [if_neg h]
    have hh : halfR s = ((unhexR s).1, false) := by
      unfold halfR
      congr 1
      rw [Bool.and_eq_false_iff]
      by_cases g : s.size = 16
      · exact .inl (by simpa using fun e => h ⟨g, e⟩)
      · exact .inr (by simpa using g)
    have htx := fun W => htx W hs
    rw [hh] at htx
    have HT := hid htx
    clear htx h hh
    go_enter Try.func129, Try.ntmps129
    go_wp2_with fail
    refine (HT.out _).mono ?_
    rintro e w1 ⟨rfl, rfl⟩
    go_wp2_with fail
    go_ret2
    exact ⟨by rw [hr.out]; rfl, rfl⟩

set_option maxRecDepth 100000 in
theorem rspanOf_any (s : ByteArray) (W : World) (hs : s.size ≤ 1000000000000000) :
    Calls Try.prog 133 #[.string s] W fun e w' => e = .returned (.tuple #[.int .u64 (spanOfR s).1, .int .i64 (spanOfR s).2]) ∧ W = w' := by
  obtain ⟨a, b, hr⟩ : ∃ a b, unhexR s = (a, b) := ⟨_, _, rfl⟩
  have H1 := hid hr
  have hq : spanOfR s = if s.size = 16 ∧ b = 0 then (if a = 0 then (0, 11) else (a, 0)) else (0, 3) := by unfold spanOfR; rw [hr]
  clear hr
  by_cases h16 : s.size = 16
  · have h16' : ((s.size : Int) == 16) = true := by simp [h16]
    by_cases hb : b = 0
    · subst hb
      by_cases hz : a = 0
      · subst hz
        have hr : Hid (spanOfR s = (0, 11)) := by show _ = _; rw [hq, if_pos ⟨h16, rfl⟩, if_pos rfl]
        have H16 := hid h16
        clear hq
        go_enter Try.func133, Try.ntmps133
        go_wp2_with fail
        refine (runhex_val s _ _ _ hs H1.out).mono ?_
        rintro e w1 ⟨rfl, rfl⟩
        go_wp2_with fail
        go_ret2
        exact ⟨by rw [hr.out]; rfl, rfl⟩
      · have hr : Hid (spanOfR s = (a, 0)) := by show _ = _; rw [hq, if_pos ⟨h16, rfl⟩, if_neg hz]
        clear hq
        go_enter Try.func133, Try.ntmps133
        go_wp2_with fail
        refine (runhex_val s _ _ _ hs H1.out).mono ?_
        rintro e w1 ⟨rfl, rfl⟩
        go_wp2_with fail
        go_ret2
        exact ⟨by rw [hr.out]; rfl, rfl⟩
    · have hr : Hid (spanOfR s = (0, 3)) := by show _ = _; rw [hq, if_neg (fun h => hb h.2)]
      clear hq
      go_enter Try.func133, Try.ntmps133
      go_wp2_with fail
      refine (runhex_val s _ _ _ hs H1.out).mono ?_
      rintro e w1 ⟨rfl, rfl⟩
      go_wp2_with fail
      go_ret2
      exact ⟨by rw [hr.out]; rfl, rfl⟩
  · have h16' : ((s.size : Int) == 16) = false := by simp; omega
    have hr : Hid (spanOfR s = (0, 3)) := by show _ = _; rw [hq, if_neg (fun h => h16 h.1)]
    clear hq
    go_enter Try.func133, Try.ntmps133
    go_wp2_with fail
    refine (runhex_val s _ _ _ hs H1.out).mono ?_
    rintro e w1 ⟨rfl, rfl⟩
    go_wp2_with fail
    go_ret2
    exact ⟨by rw [hr.out]; rfl, rfl⟩

end C06
end Go.Proofs.Ytpamnknfccmgcaa
