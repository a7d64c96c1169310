/- Walks of layer 34 (prog): the document's check of an operation; no condition. -/
import Derived.Test.YtahakgmfkplidaaP35
import Derived.Test.YtahakgmfkplidaaF35
namespace Go.Proofs.Ytahakgmfkplidaa
open Go.RowKit Go.Peri
namespace C35
open C11 (pathOk)
set_option maxRecDepth 100000 in
set_option maxHeartbeats 8000000 in
theorem rcheck_1 (a b : ByteArray) (n r : Int) (W : World) (ha : a.size ≤ 1000000000000000) (hb : b.size ≤ 1000000000000000) (hr : opE ⟨1, a, b, n⟩ = r) :
    Calls Try.prog 42 #[.agg #[.int .i64 1, .string a, .string b, .int .i64 n]] W fun e w' => e = .returned (.int .i64 r) ∧ Below W.heap.size W w' := by
  obtain ⟨na, hna⟩ : ∃ q, Hd.nameOk a = q := ⟨_, rfl⟩
  obtain ⟨va, hva⟩ : ∃ q, Hd.valueOk a = q := ⟨_, rfl⟩
  obtain ⟨vb, hvb⟩ : ∃ q, Hd.valueOk b = q := ⟨_, rfl⟩
  obtain ⟨pb, hpb⟩ : ∃ q, pathOk b = q := ⟨_, rfl⟩
  have XNA := hid (fun w => C04.rname_any a w ha)
  have XVA := hid (fun w => C04.rvalue_any a w ha)
  have XVB := hid (fun w => C04.rvalue_any b w hb)
  have XPB := hid (fun w => C11.rpath_any b pb w hb hpb)
  have HR := hid hr
  unfold opE at HR
  simp only [hna, hva, hvb, hpb] at HR
  rw [hna] at XNA
  rw [hva] at XVA
  rw [hvb] at XVB
  clear hna hva hvb hpb hr
  go_enter Try.func42, Try.ntmps42
  go_upto_region 1 with fail
  refine wp_genG ?_
  intro w0 hw0
  have hb0 : Below W.heap.size W w0 := by rw [hw0]; go_grown
  have hk0 : Blk w0 W.heap.size #[.int .i64 1, .string a, .string b, .int .i64 n] 45 := by rw [hw0]; exact Blk.new _ _ _
  clear hw0
  have HB := hid hb0
  obtain ⟨x0, x1, x2, x3, -⟩ := blk4o hk0
  clear hb0 hk0
  by_cases eb : b.toList = []
  · have kb : b.toList.isEmpty = true := by rw [eb]; rfl
    rw [kb] at HR
    by_cases en : n = 0
    · have kn : (n != 0) = false := by rw [en]; rfl
      rw [kn] at HR
      go_wp2_with fail
      refine (XVA.out _).mono ?_
      rintro e w9 ⟨rfl, rfl⟩
      cases va
      · skip
        go_wp2_with fail
        go_ret
        exact ⟨by rw [← HR.out]; rfl, HB.out⟩
      · skip
        go_wp2_with fail
        go_ret
        exact ⟨by rw [← HR.out]; rfl, HB.out⟩
    · have kn : (n != 0) = true := by simpa using en
      rw [kn] at HR
      go_wp2_with fail
      go_ret
      exact ⟨by rw [← HR.out]; rfl, HB.out⟩
  · have kb : b.toList.isEmpty = false := by rw [Bool.eq_false_iff]; intro h; exact eb (List.isEmpty_iff.1 h)
    rw [kb] at HR
    go_wp2_with fail
    go_ret
    exact ⟨by rw [← HR.out]; rfl, HB.out⟩
set_option maxRecDepth 100000 in
set_option maxHeartbeats 8000000 in
theorem rcheck_2 (a b : ByteArray) (n r : Int) (W : World) (ha : a.size ≤ 1000000000000000) (hb : b.size ≤ 1000000000000000) (hr : opE ⟨2, a, b, n⟩ = r) :
    Calls Try.prog 42 #[.agg #[.int .i64 2, .string a, .string b, .int .i64 n]] W fun e w' => e = .returned (.int .i64 r) ∧ Below W.heap.size W w' := by
  obtain ⟨na, hna⟩ : ∃ q, Hd.nameOk a = q := ⟨_, rfl⟩
  obtain ⟨va, hva⟩ : ∃ q, Hd.valueOk a = q := ⟨_, rfl⟩
  obtain ⟨vb, hvb⟩ : ∃ q, Hd.valueOk b = q := ⟨_, rfl⟩
  obtain ⟨pb, hpb⟩ : ∃ q, pathOk b = q := ⟨_, rfl⟩
  have XNA := hid (fun w => C04.rname_any a w ha)
  have XVA := hid (fun w => C04.rvalue_any a w ha)
  have XVB := hid (fun w => C04.rvalue_any b w hb)
  have XPB := hid (fun w => C11.rpath_any b pb w hb hpb)
  have HR := hid hr
  unfold opE at HR
  simp only [hna, hva, hvb, hpb] at HR
  rw [hna] at XNA
  rw [hva] at XVA
  rw [hvb] at XVB
  clear hna hva hvb hpb hr
  go_enter Try.func42, Try.ntmps42
  go_upto_region 1 with fail
  refine wp_genG ?_
  intro w0 hw0
  have hb0 : Below W.heap.size W w0 := by rw [hw0]; go_grown
  have hk0 : Blk w0 W.heap.size #[.int .i64 2, .string a, .string b, .int .i64 n] 45 := by rw [hw0]; exact Blk.new _ _ _
  clear hw0
  have HB := hid hb0
  obtain ⟨x0, x1, x2, x3, -⟩ := blk4o hk0
  clear hb0 hk0
  by_cases eb : b.toList = []
  · have kb : b.toList.isEmpty = true := by rw [eb]; rfl
    rw [kb] at HR
    by_cases en : n = 0
    · have kn : (n != 0) = false := by rw [en]; rfl
      rw [kn] at HR
      go_wp2_with fail
      refine (XNA.out _).mono ?_
      rintro e w9 ⟨rfl, rfl⟩
      cases na
      · skip
        go_wp2_with fail
        go_ret
        exact ⟨by rw [← HR.out]; rfl, HB.out⟩
      · skip
        go_wp2_with fail
        go_ret
        exact ⟨by rw [← HR.out]; rfl, HB.out⟩
    · have kn : (n != 0) = true := by simpa using en
      rw [kn] at HR
      go_wp2_with fail
      go_ret
      exact ⟨by rw [← HR.out]; rfl, HB.out⟩
  · have kb : b.toList.isEmpty = false := by rw [Bool.eq_false_iff]; intro h; exact eb (List.isEmpty_iff.1 h)
    rw [kb] at HR
    go_wp2_with fail
    go_ret
    exact ⟨by rw [← HR.out]; rfl, HB.out⟩
set_option maxRecDepth 100000 in
set_option maxHeartbeats 8000000 in
theorem rcheck_3 (a b : ByteArray) (n r : Int) (W : World) (ha : a.size ≤ 1000000000000000) (hb : b.size ≤ 1000000000000000) (hr : opE ⟨3, a, b, n⟩ = r) :
    Calls Try.prog 42 #[.agg #[.int .i64 3, .string a, .string b, .int .i64 n]] W fun e w' => e = .returned (.int .i64 r) ∧ Below W.heap.size W w' := by
  obtain ⟨na, hna⟩ : ∃ q, Hd.nameOk a = q := ⟨_, rfl⟩
  obtain ⟨va, hva⟩ : ∃ q, Hd.valueOk a = q := ⟨_, rfl⟩
  obtain ⟨vb, hvb⟩ : ∃ q, Hd.valueOk b = q := ⟨_, rfl⟩
  obtain ⟨pb, hpb⟩ : ∃ q, pathOk b = q := ⟨_, rfl⟩
  have XNA := hid (fun w => C04.rname_any a w ha)
  have XVA := hid (fun w => C04.rvalue_any a w ha)
  have XVB := hid (fun w => C04.rvalue_any b w hb)
  have XPB := hid (fun w => C11.rpath_any b pb w hb hpb)
  have HR := hid hr
  unfold opE at HR
  simp only [hna, hva, hvb, hpb] at HR
  rw [hna] at XNA
  rw [hva] at XVA
  rw [hvb] at XVB
  clear hna hva hvb hpb hr
  go_enter Try.func42, Try.ntmps42
  go_upto_region 1 with fail
  refine wp_genG ?_
  intro w0 hw0
  have hb0 : Below W.heap.size W w0 := by rw [hw0]; go_grown
  have hk0 : Blk w0 W.heap.size #[.int .i64 3, .string a, .string b, .int .i64 n] 45 := by rw [hw0]; exact Blk.new _ _ _
  clear hw0
  have HB := hid hb0
  obtain ⟨x0, x1, x2, x3, -⟩ := blk4o hk0
  clear hb0 hk0
  by_cases en : n = 0
  · have kn : (n != 0) = false := by rw [en]; rfl
    rw [kn] at HR
    go_wp2_with fail
    refine (XNA.out _).mono ?_
    rintro e w9 ⟨rfl, rfl⟩
    cases na
    · skip
      go_wp2_with fail
      go_ret
      exact ⟨by rw [← HR.out]; rfl, HB.out⟩
    · skip
      go_wp2_with fail
      refine (XVB.out _).mono ?_
      rintro e w9 ⟨rfl, rfl⟩
      cases vb
      · skip
        go_wp2_with fail
        go_ret
        exact ⟨by rw [← HR.out]; rfl, HB.out⟩
      · skip
        go_wp2_with fail
        go_ret
        exact ⟨by rw [← HR.out]; rfl, HB.out⟩
  · have kn : (n != 0) = true := by simpa using en
    rw [kn] at HR
    go_wp2_with fail
    go_ret
    exact ⟨by rw [← HR.out]; rfl, HB.out⟩
set_option maxRecDepth 100000 in
set_option maxHeartbeats 8000000 in
theorem rcheck_4 (a b : ByteArray) (n r : Int) (W : World) (ha : a.size ≤ 1000000000000000) (hb : b.size ≤ 1000000000000000) (hr : opE ⟨4, a, b, n⟩ = r) :
    Calls Try.prog 42 #[.agg #[.int .i64 4, .string a, .string b, .int .i64 n]] W fun e w' => e = .returned (.int .i64 r) ∧ Below W.heap.size W w' := by
  obtain ⟨na, hna⟩ : ∃ q, Hd.nameOk a = q := ⟨_, rfl⟩
  obtain ⟨va, hva⟩ : ∃ q, Hd.valueOk a = q := ⟨_, rfl⟩
  obtain ⟨vb, hvb⟩ : ∃ q, Hd.valueOk b = q := ⟨_, rfl⟩
  obtain ⟨pb, hpb⟩ : ∃ q, pathOk b = q := ⟨_, rfl⟩
  have XNA := hid (fun w => C04.rname_any a w ha)
  have XVA := hid (fun w => C04.rvalue_any a w ha)
  have XVB := hid (fun w => C04.rvalue_any b w hb)
  have XPB := hid (fun w => C11.rpath_any b pb w hb hpb)
  have HR := hid hr
  unfold opE at HR
  simp only [hna, hva, hvb, hpb] at HR
  rw [hna] at XNA
  rw [hva] at XVA
  rw [hvb] at XVB
  clear hna hva hvb hpb hr
  go_enter Try.func42, Try.ntmps42
  go_upto_region 1 with fail
  refine wp_genG ?_
  intro w0 hw0
  have hb0 : Below W.heap.size W w0 := by rw [hw0]; go_grown
  have hk0 : Blk w0 W.heap.size #[.int .i64 4, .string a, .string b, .int .i64 n] 45 := by rw [hw0]; exact Blk.new _ _ _
  clear hw0
  have HB := hid hb0
  obtain ⟨x0, x1, x2, x3, -⟩ := blk4o hk0
  clear hb0 hk0
  by_cases eb : b.toList = []
  · have kb : b.toList.isEmpty = true := by rw [eb]; rfl
    rw [kb] at HR
    by_cases en : n = 0
    · have kn : (n != 0) = false := by rw [en]; rfl
      rw [kn] at HR
      go_wp2_with fail
      refine (XNA.out _).mono ?_
      rintro e w9 ⟨rfl, rfl⟩
      cases na
      · skip
        go_wp2_with fail
        go_ret
        exact ⟨by rw [← HR.out]; rfl, HB.out⟩
      · skip
        by_cases t1 : a.toList = [116, 114, 97, 99, 101, 112, 97, 114, 101, 110, 116]
        · have u1 : tracedB a = true := by unfold tracedB; rw [t1]; rfl
          rw [u1] at HR
          go_wp2_with fail
          go_ret
          exact ⟨by rw [← HR.out]; rfl, HB.out⟩
        · have v1 : (a.toList == [116, 114, 97, 99, 101, 112, 97, 114, 101, 110, 116]) = false := beq_eq_false_iff_ne.2 t1
          by_cases t2 : a.toList = [116, 114, 97, 99, 101, 115, 116, 97, 116, 101]
          · have u1 : tracedB a = true := by unfold tracedB; rw [t2]; rfl
            rw [u1] at HR
            go_wp2_with fail
            go_ret
            exact ⟨by rw [← HR.out]; rfl, HB.out⟩
          · have u1 : tracedB a = false := by unfold tracedB; rw [beq_eq_false_iff_ne.2 t1, beq_eq_false_iff_ne.2 t2]; rfl
            rw [u1] at HR
            have v2 : (a.toList == [116, 114, 97, 99, 101, 115, 116, 97, 116, 101]) = false := beq_eq_false_iff_ne.2 t2
            go_wp2_with fail
            go_ret
            exact ⟨by rw [← HR.out]; rfl, HB.out⟩
    · have kn : (n != 0) = true := by simpa using en
      rw [kn] at HR
      go_wp2_with fail
      go_ret
      exact ⟨by rw [← HR.out]; rfl, HB.out⟩
  · have kb : b.toList.isEmpty = false := by rw [Bool.eq_false_iff]; intro h; exact eb (List.isEmpty_iff.1 h)
    rw [kb] at HR
    go_wp2_with fail
    go_ret
    exact ⟨by rw [← HR.out]; rfl, HB.out⟩
set_option maxRecDepth 100000 in
set_option maxHeartbeats 8000000 in
theorem rcheck_5 (a b : ByteArray) (n r : Int) (W : World) (ha : a.size ≤ 1000000000000000) (hb : b.size ≤ 1000000000000000) (hr : opE ⟨5, a, b, n⟩ = r) :
    Calls Try.prog 42 #[.agg #[.int .i64 5, .string a, .string b, .int .i64 n]] W fun e w' => e = .returned (.int .i64 r) ∧ Below W.heap.size W w' := by
  obtain ⟨na, hna⟩ : ∃ q, Hd.nameOk a = q := ⟨_, rfl⟩
  obtain ⟨va, hva⟩ : ∃ q, Hd.valueOk a = q := ⟨_, rfl⟩
  obtain ⟨vb, hvb⟩ : ∃ q, Hd.valueOk b = q := ⟨_, rfl⟩
  obtain ⟨pb, hpb⟩ : ∃ q, pathOk b = q := ⟨_, rfl⟩
  have XNA := hid (fun w => C04.rname_any a w ha)
  have XVA := hid (fun w => C04.rvalue_any a w ha)
  have XVB := hid (fun w => C04.rvalue_any b w hb)
  have XPB := hid (fun w => C11.rpath_any b pb w hb hpb)
  have HR := hid hr
  unfold opE at HR
  simp only [hna, hva, hvb, hpb] at HR
  rw [hna] at XNA
  rw [hva] at XVA
  rw [hvb] at XVB
  clear hna hva hvb hpb hr
  go_enter Try.func42, Try.ntmps42
  go_upto_region 1 with fail
  refine wp_genG ?_
  intro w0 hw0
  have hb0 : Below W.heap.size W w0 := by rw [hw0]; go_grown
  have hk0 : Blk w0 W.heap.size #[.int .i64 5, .string a, .string b, .int .i64 n] 45 := by rw [hw0]; exact Blk.new _ _ _
  clear hw0
  have HB := hid hb0
  obtain ⟨x0, x1, x2, x3, -⟩ := blk4o hk0
  clear hb0 hk0
  by_cases ea : a.toList = []
  · have ka : a.toList.isEmpty = true := by rw [ea]; rfl
    rw [ka] at HR
    by_cases eb : b.toList = []
    · have kb : b.toList.isEmpty = true := by rw [eb]; rfl
      rw [kb] at HR
      by_cases en : n = 0
      · have kn : (n != 0) = false := by rw [en]; rfl
        rw [kn] at HR
        go_wp2_with fail
        go_ret
        exact ⟨by rw [← HR.out]; rfl, HB.out⟩
      · have kn : (n != 0) = true := by simpa using en
        rw [kn] at HR
        go_wp2_with fail
        go_ret
        exact ⟨by rw [← HR.out]; rfl, HB.out⟩
    · have kb : b.toList.isEmpty = false := by rw [Bool.eq_false_iff]; intro h; exact eb (List.isEmpty_iff.1 h)
      rw [kb] at HR
      go_wp2_with fail
      go_ret
      exact ⟨by rw [← HR.out]; rfl, HB.out⟩
  · have ka : a.toList.isEmpty = false := by rw [Bool.eq_false_iff]; intro h; exact ea (List.isEmpty_iff.1 h)
    rw [ka] at HR
    go_wp2_with fail
    go_ret
    exact ⟨by rw [← HR.out]; rfl, HB.out⟩
set_option maxRecDepth 100000 in
set_option maxHeartbeats 8000000 in
theorem rcheck_6 (a b : ByteArray) (n r : Int) (W : World) (ha : a.size ≤ 1000000000000000) (hb : b.size ≤ 1000000000000000) (hr : opE ⟨6, a, b, n⟩ = r) :
    Calls Try.prog 42 #[.agg #[.int .i64 6, .string a, .string b, .int .i64 n]] W fun e w' => e = .returned (.int .i64 r) ∧ Below W.heap.size W w' := by
  obtain ⟨na, hna⟩ : ∃ q, Hd.nameOk a = q := ⟨_, rfl⟩
  obtain ⟨va, hva⟩ : ∃ q, Hd.valueOk a = q := ⟨_, rfl⟩
  obtain ⟨vb, hvb⟩ : ∃ q, Hd.valueOk b = q := ⟨_, rfl⟩
  obtain ⟨pb, hpb⟩ : ∃ q, pathOk b = q := ⟨_, rfl⟩
  have XNA := hid (fun w => C04.rname_any a w ha)
  have XVA := hid (fun w => C04.rvalue_any a w ha)
  have XVB := hid (fun w => C04.rvalue_any b w hb)
  have XPB := hid (fun w => C11.rpath_any b pb w hb hpb)
  have HR := hid hr
  unfold opE at HR
  simp only [hna, hva, hvb, hpb] at HR
  rw [hna] at XNA
  rw [hva] at XVA
  rw [hvb] at XVB
  clear hna hva hvb hpb hr
  go_enter Try.func42, Try.ntmps42
  go_upto_region 1 with fail
  refine wp_genG ?_
  intro w0 hw0
  have hb0 : Below W.heap.size W w0 := by rw [hw0]; go_grown
  have hk0 : Blk w0 W.heap.size #[.int .i64 6, .string a, .string b, .int .i64 n] 45 := by rw [hw0]; exact Blk.new _ _ _
  clear hw0
  have HB := hid hb0
  obtain ⟨x0, x1, x2, x3, -⟩ := blk4o hk0
  clear hb0 hk0
  by_cases en : n = 0
  · have kn : (n != 0) = false := by rw [en]; rfl
    rw [kn] at HR
    go_wp2_with fail
    refine (XNA.out _).mono ?_
    rintro e w9 ⟨rfl, rfl⟩
    cases na
    · skip
      go_wp2_with fail
      go_ret
      exact ⟨by rw [← HR.out]; rfl, HB.out⟩
    · skip
      go_wp2_with fail
      refine (XPB.out _).mono ?_
      rintro e w9 ⟨rfl, rfl⟩
      cases pb
      · skip
        go_wp2_with fail
        go_ret
        exact ⟨by rw [← HR.out]; rfl, HB.out⟩
      · skip
        go_wp2_with fail
        go_ret
        exact ⟨by rw [← HR.out]; rfl, HB.out⟩
  · have kn : (n != 0) = true := by simpa using en
    rw [kn] at HR
    go_wp2_with fail
    go_ret
    exact ⟨by rw [← HR.out]; rfl, HB.out⟩
set_option maxRecDepth 100000 in
set_option maxHeartbeats 8000000 in
theorem rcheck_7 (a b : ByteArray) (n r : Int) (W : World) (ha : a.size ≤ 1000000000000000) (hb : b.size ≤ 1000000000000000) (hr : opE ⟨7, a, b, n⟩ = r) :
    Calls Try.prog 42 #[.agg #[.int .i64 7, .string a, .string b, .int .i64 n]] W fun e w' => e = .returned (.int .i64 r) ∧ Below W.heap.size W w' := by
  obtain ⟨na, hna⟩ : ∃ q, Hd.nameOk a = q := ⟨_, rfl⟩
  obtain ⟨va, hva⟩ : ∃ q, Hd.valueOk a = q := ⟨_, rfl⟩
  obtain ⟨vb, hvb⟩ : ∃ q, Hd.valueOk b = q := ⟨_, rfl⟩
  obtain ⟨pb, hpb⟩ : ∃ q, pathOk b = q := ⟨_, rfl⟩
  have XNA := hid (fun w => C04.rname_any a w ha)
  have XVA := hid (fun w => C04.rvalue_any a w ha)
  have XVB := hid (fun w => C04.rvalue_any b w hb)
  have XPB := hid (fun w => C11.rpath_any b pb w hb hpb)
  have HR := hid hr
  unfold opE at HR
  simp only [hna, hva, hvb, hpb] at HR
  rw [hna] at XNA
  rw [hva] at XVA
  rw [hvb] at XVB
  clear hna hva hvb hpb hr
  go_enter Try.func42, Try.ntmps42
  go_upto_region 1 with fail
  refine wp_genG ?_
  intro w0 hw0
  have hb0 : Below W.heap.size W w0 := by rw [hw0]; go_grown
  have hk0 : Blk w0 W.heap.size #[.int .i64 7, .string a, .string b, .int .i64 n] 45 := by rw [hw0]; exact Blk.new _ _ _
  clear hw0
  have HB := hid hb0
  obtain ⟨x0, x1, x2, x3, -⟩ := blk4o hk0
  clear hb0 hk0
  by_cases ea : a.toList = []
  · have ka : a.toList.isEmpty = true := by rw [ea]; rfl
    rw [ka] at HR
    by_cases eb : b.toList = []
    · have kb : b.toList.isEmpty = true := by rw [eb]; rfl
      rw [kb] at HR
      by_cases h6 : n < 100
      · rw [decide_eq_true h6] at HR
        go_wp2_with fail
        go_ret
        exact ⟨by rw [← HR.out]; rfl, HB.out⟩
      · rw [decide_eq_false h6] at HR
        by_cases h7 : 599 < n
        · rw [decide_eq_true h7] at HR
          go_wp2_with fail
          go_ret
          exact ⟨by rw [← HR.out]; rfl, HB.out⟩
        · rw [decide_eq_false h7] at HR
          go_wp2_with fail
          go_ret
          exact ⟨by rw [← HR.out]; rfl, HB.out⟩
    · have kb : b.toList.isEmpty = false := by rw [Bool.eq_false_iff]; intro h; exact eb (List.isEmpty_iff.1 h)
      rw [kb] at HR
      go_wp2_with fail
      go_ret
      exact ⟨by rw [← HR.out]; rfl, HB.out⟩
  · have ka : a.toList.isEmpty = false := by rw [Bool.eq_false_iff]; intro h; exact ea (List.isEmpty_iff.1 h)
    rw [ka] at HR
    go_wp2_with fail
    go_ret
    exact ⟨by rw [← HR.out]; rfl, HB.out⟩
end C35
end Go.Proofs.Ytahakgmfkplidaa
