/- Walks of layer 7 (parent): traceparents as texts; no condition. -/
import Derived.Test.YtpamnknfccmgcaaG06
import Derived.Test.YtpamnknfccmgcaaChecked
namespace Go.Proofs.Ytpamnknfccmgcaa
open Go.RowKit Go.Peri
namespace C07
open C01 C06

def pre : ByteArray := ⟨#[48, 48, 45]⟩
def dash : ByteArray := ⟨#[45]⟩
/-- Flags as two digits. -/
def fx (n : Nat) : ByteArray := ofNats ((Oct.dg 16 n 2).map hexd)
theorem fx_size (n : Nat) : (fx n).size = 2 := by unfold fx; rw [ofNats_size, List.length_map, Oct.dg_length]
theorem hex_fx (n : Nat) (hn : n < 256) : hexR n 2 = (fx n, 0) := by
  unfold hexR
  rw [if_pos (by decide)]
  have : n < 16 ^ (2 : Int).toNat := by simpa using hn
  rw [if_pos this]
  rfl
def whole (hi lo sp f : Nat) : ByteArray := pre ++ (txt hi ++ txt lo) ++ dash ++ txt sp ++ dash ++ fx f
def writeR (hi lo sp : Nat) (fl : Int) : ByteArray × Int :=
  if (hi = 0 ∧ lo = 0) ∨ sp = 0 then (ByteArray.empty, 11) else if fl < 0 ∨ 255 < fl then (ByteArray.empty, 12) else (whole hi lo sp fl.toNat, 0)
theorem zeroR_iff (hi lo : Nat) : zeroR hi lo = decide (hi = 0 ∧ lo = 0) := rfl

set_option maxRecDepth 100000 in
set_option maxHeartbeats 1000000 in
theorem write_any (hi lo sp : Nat) (fl : Int) (a : ByteArray) (e : Int) (W : World) (h1 : hi < 18446744073709551616) (h2 : lo < 18446744073709551616) (h3 : sp < 18446744073709551616) (hr : writeR hi lo sp fl = (a, e)) :
    Calls Try.prog 50 #[.agg #[.int .u64 hi, .int .u64 lo, .int .u64 sp, .int .i64 fl]] W fun e' w' => e' = .returned (.tuple #[.string a, .int .i64 e]) ∧ Below W.heap.size W w' := by
  unfold writeR at hr
  have HB0 : Hid (Below W.heap.size W (W.alloc (.cells #[.int .u64 hi, .int .u64 lo, .int .u64 sp, .int .i64 fl] 44))) := by show Below _ _ _; go_grown
  have HZ := hid (fun (r : Bool) (hr : zeroR hi lo = r) (w : World) => zero_val hi lo r w h1 h2 hr)
  by_cases hz : hi = 0 ∧ lo = 0
  · rw [if_pos (.inl hz)] at hr
    cases hr
    have hzr : zeroR hi lo = true := by rw [zeroR_iff]; exact decide_eq_true hz
    have HZ2 := hid (HZ.out true hzr)
    clear HZ hzr hz
    go_enter Try.func50, Try.ntmps50
    go_wp2_with fail
    refine (HZ2.out _).mono ?_
    rintro e w1 ⟨rfl, hb1⟩
    have HB1 := hid (HB0.out.trans (hb1.mono (by simp)))
    clear hb1
    go_wp2_with fail
    go_ret2
    exact ⟨rfl, HB1.out⟩
  have hzr : zeroR hi lo = false := by rw [zeroR_iff]; exact decide_eq_false hz
  have HZ2 := hid (HZ.out false hzr)
  have hblk : ∀ w', Below (W.alloc (.cells #[.int .u64 hi, .int .u64 lo, .int .u64 sp, .int .i64 fl] 44)).heap.size (W.alloc (.cells #[.int .u64 hi, .int .u64 lo, .int .u64 sp, .int .i64 fl] 44)) w' → Blk w' W.heap.size #[.int .u64 hi, .int .u64 lo, .int .u64 sp, .int .i64 fl] 44 := fun w' hw => (Blk.new W _ _).later hw
  have HBLK := hid hblk
  clear HZ hzr hblk
  by_cases hs : sp = 0
  · rw [if_pos (.inr hs)] at hr
    cases hr
    subst hs
    go_enter Try.func50, Try.ntmps50
    go_wp2_with fail
    refine (HZ2.out _).mono ?_
    rintro e w1 ⟨rfl, hb1⟩
    have c2 : w1.cell? ⟨W.heap.size, 2, none⟩ = some (.int .u64 0) := (HBLK.out _ hb1).cell 2
    have HB1 := hid (HB0.out.trans (hb1.mono (by simp)))
    clear hb1
    go_wp2_with fail
    go_ret2
    exact ⟨rfl, HB1.out⟩
  rw [if_neg (by rintro (h | h); exact hz h; exact hs h)] at hr
  have hs1 : ((sp : Int) == 0) = false := by rw [beq_eq_false_iff_ne]; omega
  clear hz hs
  by_cases hf : fl < 0 ∨ 255 < fl
  · rw [if_pos hf] at hr
    cases hr
    by_cases hf1 : fl < 0
    · clear hf
      go_enter Try.func50, Try.ntmps50
      go_wp2_with fail
      refine (HZ2.out _).mono ?_
      rintro e w1 ⟨rfl, hb1⟩
      have c2 : w1.cell? ⟨W.heap.size, 2, none⟩ = some (.int .u64 sp) := (HBLK.out _ hb1).cell 2
      have c3 : w1.cell? ⟨W.heap.size, 3, none⟩ = some (.int .i64 fl) := (HBLK.out _ hb1).cell 3
      have HB1 := hid (HB0.out.trans (hb1.mono (by simp)))
      clear hb1
      go_wp2_with fail
      go_ret2
      exact ⟨rfl, HB1.out⟩
    · have hf2 : 255 < fl := by omega
      clear hf
      go_enter Try.func50, Try.ntmps50
      go_wp2_with fail
      refine (HZ2.out _).mono ?_
      rintro e w1 ⟨rfl, hb1⟩
      have c2 : w1.cell? ⟨W.heap.size, 2, none⟩ = some (.int .u64 sp) := (HBLK.out _ hb1).cell 2
      have c3 : w1.cell? ⟨W.heap.size, 3, none⟩ = some (.int .i64 fl) := (HBLK.out _ hb1).cell 3
      have HB1 := hid (HB0.out.trans (hb1.mono (by simp)))
      clear hb1
      go_wp2_with fail
      go_ret2
      exact ⟨rfl, HB1.out⟩
  rw [if_neg hf] at hr
  obtain ⟨f, rfl⟩ := Int.eq_ofNat_of_zero_le (show 0 ≤ fl by omega)
  rw [Int.toNat_natCast] at hr
  have hf1 : ¬ (f : Int) < 0 := by omega
  have hf2 : ¬ (255 : Int) < (f : Int) := by omega
  have hf3 : f ≤ 255 := by omega
  have HX := hid (fun w => hex_val f 2 w (fx f) 0 (by omega) (hex_fx f (by omega)))
  have HT := hid (fun w => text_any hi lo w h1 h2)
  have HS := hid (fun w => spanText sp w h3)
  have s1 : (txt hi ++ txt lo).size = 32 := by rw [ByteArray.size_append, txt_size, txt_size]
  have s2 := txt_size sp
  have s3 := fx_size f
  unfold whole at hr
  generalize txt hi ++ txt lo = tx at hr HT s1
  generalize txt sp = ts at hr HS s2
  generalize fx f = tf at hr HX s3
  have HR := hid hr
  clear hf hr
  go_enter Try.func50, Try.ntmps50
  go_wp2_with fail
  refine (HZ2.out _).mono ?_
  rintro e w1 ⟨rfl, hb1⟩
  have c2 : w1.cell? ⟨W.heap.size, 2, none⟩ = some (.int .u64 sp) := (HBLK.out _ hb1).cell 2
  have c3 : w1.cell? ⟨W.heap.size, 3, none⟩ = some (.int .i64 f) := (HBLK.out _ hb1).cell 3
  have HC1 := hid hb1
  have HB1 := hid (HB0.out.trans (hb1.mono (by simp)))
  clear hb1
  go_wp2_with fail
  refine (HX.out _).mono ?_
  rintro e w2 ⟨rfl, hb2⟩
  have hbk := HBLK.out _ (HC1.out.trans (hb2.mono HC1.out.size))
  have d0 : w2.cell? ⟨W.heap.size, 0, none⟩ = some (.int .u64 hi) := hbk.cell 0
  have d1 : w2.cell? ⟨W.heap.size, 1, none⟩ = some (.int .u64 lo) := hbk.cell 1
  have d2 : w2.cell? ⟨W.heap.size, 2, none⟩ = some (.int .u64 sp) := hbk.cell 2
  have hlt := hbk.lt
  have HB2 := hid (HB1.out.trans (hb2.mono HB1.out.size))
  clear hb2 c2 c3 hbk
  go_wp2_with fail
  refine wp_region_bw (by kernel_rfl) (by kernel_rfl) ?_
  repeat (go_big_quiet_step ((first | (go_at_call 137; exact bw_call (HT.out _)) | (go_at_call 138; exact bw_call (HS.out _)))))
  refine wpQuiet_nil ?_
  rintro _ ⟨⟨w3, hb3⟩, rfl⟩
  have HB3 := hid (HB2.out.trans (hb3.mono HB2.out.size))
  clear hb3
  go_wp2_with fail
  go_ret2
  refine ⟨?_, HB3.out⟩
  cases HR.out
  rfl
end C07
end Go.Proofs.Ytpamnknfccmgcaa
