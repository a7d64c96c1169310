/- Walks of layer 3 (crc): one byte that is another one is told; no condition. -/
import Derived.Test.YthmopkaecbebpaaK03
namespace Go.Proofs.Ythmopkaecbebpaa
open Go.RowKit Go.Peri
namespace C03
open C01
theorem open_no (a b : ByteArray) (hb : b.size = 4) (h : tailR a ≠ b) : openR (a ++ b) = (ByteArray.empty, 4) := by
  have hz : (a ++ b).size = a.size + 4 := by rw [ByteArray.size_append, hb]
  have e1 : (a ++ b).extract 0 a.size = a := by
    apply ba_ext
    rw [ext_list, ba_list, List.drop_zero, Nat.sub_zero, ← ba_len a, List.take_left]
  have e2 : (a ++ b).extract a.size (a.size + 4) = b := by
    apply ba_ext
    rw [ext_list, ba_list, Nat.add_sub_cancel_left, ← ba_len a, List.drop_left, List.take_of_length_le (by rw [ba_len, hb]; omega)]
  unfold openR
  rw [hz, if_neg (by omega), Nat.add_sub_cancel, e1, e2, if_neg h]
theorem ofNats_inj {l m : List Nat} (hl : ∀ d ∈ l, d < 256) (hm : ∀ d ∈ m, d < 256) (h : ofNats l = ofNats m) : l = m := by
  have e : l.map UInt8.ofNat = m.map UInt8.ofNat := by
    have := congrArg (fun x : ByteArray => x.data.toList) h
    simpa [ofNats] using this
  have h2 := congrArg (fun x : List UInt8 => x.map UInt8.toNat) e
  simp only [List.map_map] at h2
  have k : ∀ l : List Nat, (∀ d ∈ l, d < 256) → l.map (UInt8.toNat ∘ UInt8.ofNat) = l := by
    intro l hl
    conv => rhs; rw [← List.map_id l]
    refine List.map_congr_left fun d hd => ?_
    have := hl d hd
    simp only [Function.comp, UInt8.toNat_ofNat', id]
    omega
  rwa [k l hl, k m hm] at h2
theorem tailR_inj {a b : ByteArray} (h : tailR a = tailR b) : Crc.sum a.data.toList = Crc.sum b.data.toList := by
  have h1 := ofNats_inj (Oct.dg_lt 256 _ (by decide) 4) (Oct.dg_lt 256 _ (by decide) 4) h
  have h2 := congrArg (Oct.val 256) h1
  rw [Oct.val_dg _ _ (by decide), Oct.val_dg _ _ (by decide)] at h2
  have := Crc.sum_lt a.data.toList
  have := Crc.sum_lt b.data.toList
  have e4 : 256 ^ 4 = 4294967296 := by decide
  rw [e4] at h2
  omega
/-- A byte is turned. -/
def turnB (t : ByteArray) (k : Nat) (x : UInt8) : ByteArray := ⟨(t.data.toList.set k x).toArray⟩
theorem turn_told (s : ByteArray) (k : Nat) (x : UInt8) (hk : k < (s ++ tailR s).size) (hx : x ≠ (s ++ tailR s)[k]) : openR (turnB (s ++ tailR s) k x) = (ByteArray.empty, 4) := by
  have h4 := tailR_size s
  have hl4 : (tailR s).data.toList.length = 4 := by rw [ba_len, h4]
  have hz : (s ++ tailR s).size = s.size + 4 := by rw [ByteArray.size_append, h4]
  have hx2 : x ≠ (s.data.toList ++ (tailR s).data.toList)[k]'(by rw [List.length_append, ba_len, hl4]; omega) := by
    intro e
    apply hx
    rw [e]
    show _ = (s ++ tailR s).data[k]
    rw [← Array.getElem_toList]
    congr 1
  by_cases hks : k < s.size
  · have e : turnB (s ++ tailR s) k x = ⟨(s.data.toList.set k x).toArray⟩ ++ tailR s := by
      apply ba_ext
      unfold turnB
      rw [ba_list, ba_list, List.set_append, if_pos (by rw [ba_len]; exact hks)]
    rw [e]
    refine open_no _ _ h4 fun h => ?_
    have h1 : Crc.sum (s.data.toList.set k x) = Crc.sum s.data.toList := tailR_inj h
    have hk2 : k < s.data.toList.length := by rw [ba_len]; exact hks
    have e1 : s.data.toList.set k x = s.data.toList.take k ++ x :: s.data.toList.drop (k + 1) := List.set_eq_take_append_cons_drop.trans (by rw [if_pos hk2])
    have e2 : s.data.toList = s.data.toList.take k ++ s.data.toList[k] :: s.data.toList.drop (k + 1) := by
      rw [← List.drop_eq_getElem_cons hk2, List.take_append_drop]
    rw [List.getElem_append_left hk2] at hx2
    have h2 := Crc.fold_tells (sum := 4294967295) (by decide) (s.data.toList.take k) (s.data.toList.drop (k + 1)) hx2
    rw [← e1, ← e2] at h2
    apply h2
    have h3 := Crc.fold_lt (sum := 4294967295) (by decide) (s.data.toList.set k x)
    have h5 := Crc.fold_lt (sum := 4294967295) (by decide) s.data.toList
    unfold Crc.sum at h1
    omega
  · have hk2 : ¬ k < s.data.toList.length := by rw [ba_len]; exact hks
    have e : turnB (s ++ tailR s) k x = s ++ ⟨((tailR s).data.toList.set (k - s.size) x).toArray⟩ := by
      apply ba_ext
      unfold turnB
      rw [ba_list, ba_list, List.set_append, if_neg hk2, ba_len]
    have hk3 : k - s.size < (tailR s).data.toList.length := by rw [hl4]; omega
    rw [e]
    refine open_no _ _ (by rw [← ba_len, List.length_set, hl4]) fun h => ?_
    rw [List.getElem_append_right (by omega)] at hx2
    apply hx2
    have h1 : (tailR s).data.toList = (tailR s).data.toList.set (k - s.size) x := congrArg (fun x : ByteArray => x.data.toList) h
    have h2 := congrArg (fun l : List UInt8 => l[k - s.size]?) h1
    simp only [List.getElem?_set_self hk3, List.getElem?_eq_getElem hk3] at h2
    have h3 := (Option.some.inj h2).symm
    rw [h3]
    congr 1
theorem row_cell (t : ByteArray) (c i : Nat) (hi : i < t.size) : (bytesRow t c)[i]? = some (.int .u8 (t[i].toNat : Int)) := by
  unfold bytesRow
  rw [Array.getElem?_append_left (by simpa using hi), Array.getElem?_map, Array.getElem?_eq_getElem hi]
  rfl
theorem byte_nat (x : Int) (h0 : 0 ≤ x) (h1 : x < 256) : ∃ b : UInt8, x = (b.toNat : Int) := ⟨UInt8.ofNat x.toNat, by rw [UInt8.toNat_ofNat']; omega⟩
set_option maxRecDepth 100000 in
set_option maxHeartbeats 2000000 in
theorem tells_walk (s : ByteArray) (at_ by_ : Int) (W : World) (ha : -9223372036854775808 ≤ at_ ∧ at_ ≤ 9223372036854775807) (hb0 : 0 ≤ by_ ∧ by_ ≤ 255) :
    Calls Try.prog 15 #[.string s, .int .i64 at_, .int .u8 by_] W fun e w' => e = .returned (.bool true) ∧ Below W.heap.size W w' := by
  by_cases h2 : 2000 < s.size
  · go_enter Try.func15, Try.ntmps15
    go_wp2_with fail
    refine (known_any _).mono ?_
    rintro e w' ⟨rfl, hb⟩
    have HB := hid hb
    clear hb
    go_wp2_with fail
    go_ret
    exact ⟨rfl, HB.out⟩
  have h4 := tailR_size s
  have hz : (s ++ tailR s).size = s.size + 4 := by rw [ByteArray.size_append, h4]
  have HL : Hid (∀ w, Calls Try.prog 59 #[.string s] w fun e' w' => e' = .returned (.string (s ++ tailR s)) ∧ Below w.heap.size w w') := fun w => seal_any s w (by omega)
  have HO : Hid (∀ w, Calls Try.prog 55 #[.string (s ++ tailR s)] w fun e' w' => e' = .returned (.tuple #[.string s, .int .i64 0]) ∧ Below w.heap.size w w') := fun w => by
    have := open_any (s ++ tailR s) w (by omega)
    rwa [open_seal] at this
  have hss : (s.toList == s.toList) = true := by simp
  have HTT := hid (fun k x => turn_told s k x)
  generalize s ++ tailR s = t at HL HO hz HTT
  clear h4
  have HK : Hid (∀ w, Calls Try.prog 54 #[] w fun e w' => e = .returned (.bool true) ∧ Below w.heap.size w w') := hid known_any
  by_cases hat : at_ < 0 ∨ (¬ at_ < 0 ∧ (s.size : Int) + 4 ≤ at_) ∨ (¬ at_ < 0 ∧ ¬ (s.size : Int) + 4 ≤ at_ ∧ by_ = 0)
  · rcases hat with h | ⟨h0, h⟩ | ⟨h0, h1, h⟩
    all_goals
      try subst h
      go_enter Try.func15, Try.ntmps15
      go_wp2_with fail
      refine (HL.out _).mono ?_
      rintro e' w1 ⟨rfl, hb1⟩
      have HB1 := hid hb1
      clear hb1
      go_wp2_with fail
      refine (HO.out _).mono ?_
      rintro e' w2 ⟨rfl, hb2⟩
      have HB2 := hid (HB1.out.trans (hb2.mono HB1.out.size))
      clear hb2
      go_wp2_with fail
      refine (HK.out _).mono ?_
      rintro e' w3 ⟨rfl, hb3⟩
      have HB3 := hid (HB2.out.trans (hb3.mono HB2.out.size))
      clear hb3
      go_wp2_with fail
      go_ret
      exact ⟨rfl, HB3.out⟩
  have a0 : ¬ at_ < 0 := fun h => hat (.inl h)
  have a1 : ¬ (s.size : Int) + 4 ≤ at_ := fun h => hat (.inr (.inl ⟨a0, h⟩))
  have a2 : ¬ by_ = 0 := fun h => hat (.inr (.inr ⟨a0, a1, h⟩))
  clear hat
  obtain ⟨k, rfl⟩ := Int.eq_ofNat_of_zero_le (show 0 ≤ at_ by omega)
  obtain ⟨y, rfl⟩ := byte_nat by_ hb0.1 (by omega)
  have hk : k < t.size := by omega
  have hy : y.toNat ≠ 0 := by omega
  have hx : bits .xor .u8 ((t[k]).toNat : Int) (y.toNat : Int) = ((t[k] ^^^ y).toNat : Int) := by
    rw [u8_xor_nat _ _ (t[k]).toNat_lt y.toNat_lt, UInt8.toNat_xor]
  have hne : t[k] ^^^ y ≠ t[k] := by
    intro e
    have h1 := congrArg UInt8.toNat e
    rw [UInt8.toNat_xor] at h1
    have h3 := congrArg (fun n => (t[k]).toNat ^^^ n) h1
    simp only [← Nat.xor_assoc, Nat.xor_self, Nat.zero_xor] at h3
    exact hy h3
  have htold := HTT.out k (t[k] ^^^ y) hk hne
  have htz : (turnB t k (t[k] ^^^ y)).size = t.size := by rw [← ba_len]; show (t.data.toList.set _ _).length = _; rw [List.length_set, ba_len]
  have HO2 : Hid (∀ w, Calls Try.prog 55 #[.string (turnB t k (t[k] ^^^ y))] w fun e' w' => e' = .returned (.tuple #[.string ByteArray.empty, .int .i64 4]) ∧ Below w.heap.size w w') := fun w => by
    have := open_any (turnB t k (t[k] ^^^ y)) w (by omega)
    rwa [htold] at this
  have hset : ∀ j (hj : j < (t.data.toList.set k (t[k] ^^^ y)).length), (t.data.toList.set k (t[k] ^^^ y))[j] = if k = j then t[k] ^^^ y else t[j]'(by rwa [List.length_set, ba_len] at hj) := by
    intro j hj
    rw [List.getElem_set]
    rfl
  have HSET := hid hset
  have HTU : Hid (turnB t k (t[k] ^^^ y) = ⟨(t.data.toList.set k (t[k] ^^^ y)).toArray⟩) := hid rfl
  have HLEN : Hid ((t.data.toList.set k (t[k] ^^^ y)).length = t.size) := hid (by rw [List.length_set, ba_len])
  have HKT := hid hk
  have HZ := hid hz
  clear htold htz hne hset HTT
  generalize hx2 : t[k] ^^^ y = x at hx HO2 HSET HTU HLEN
  clear hx2
  generalize turnB t k x = t2 at HO2 HTU
  go_enter Try.func15, Try.ntmps15
  go_wp2_with fail
  refine (HL.out _).mono ?_
  rintro e' w1 ⟨rfl, hb1⟩
  have HB1 := hid hb1
  clear hb1
  go_wp2_with fail
  refine (HO.out _).mono ?_
  rintro e' w2 ⟨rfl, hb2⟩
  have HB2 := hid (HB1.out.trans (hb2.mono HB1.out.size))
  clear hb2
  have hcv := run_bytes_of_string (P := Try.prog) w2 9 106 5 t Try.underlying9 Try.underlying106 Try.underlying5
  generalize grownCap w2 t.size 0 5 = c at hcv
  have hrow := row_cell t c
  generalize bytesRow t c = R at hcv hrow
  have hh : (w2.drew.alloc (.cells R 5 (R.size, R.size + 1))).heap[w2.heap.size]? = some (.cells R 5 (R.size, R.size + 1)) := by
    show (w2.heap.push _)[w2.heap.size]? = _
    simp
  have hwx : ∀ i, (w2.drew.alloc (.cells R 5 (R.size, R.size + 1))).cell? ⟨w2.heap.size, i, none⟩ = R[i]? := fun i => by unfold World.cell?; rw [hh]; rfl
  have hfx : ∀ i, i < t.size → (w2.drew.alloc (.cells R 5 (R.size, R.size + 1))).frozen? ⟨w2.heap.size, i, none⟩ = false := fun i hi => by
    have := (Array.getElem?_eq_some_iff.1 (hrow i hi)).1
    simp only [World.frozen?, hh]
    simp; omega
  have hbx : Below w2.heap.size w2 (w2.drew.alloc (.cells R 5 (R.size, R.size + 1))) := by go_grown
  have hlx : w2.heap.size < (w2.drew.alloc (.cells R 5 (R.size, R.size + 1))).heap.size := by simp [World.alloc]
  generalize w2.drew.alloc (.cells R 5 (R.size, R.size + 1)) = wx at hcv hwx hfx hbx hlx hh
  rw [hz] at hcv
  have c0 : wx.cell? ⟨w2.heap.size, k, none⟩ = some (.int .u8 (t[k].toNat : Int)) := (hwx k).trans (hrow k hk)
  have f0 := hfx k hk
  have hback : (convert 106 9 (.slice (some ⟨w2.heap.size, 0, none⟩) (s.size + 4) c)).run Try.prog (wx.setCell ⟨w2.heap.size, k, none⟩ (.int .u8 (x.toNat : Int))) = .ok (.string t2) (wx.setCell ⟨w2.heap.size, k, none⟩ (.int .u8 (x.toNat : Int))) := by
    have h0 := run_convert_bytes_back (P := Try.prog) (wx.setCell ⟨w2.heap.size, k, none⟩ (.int .u8 (x.toNat : Int))) 106 9 5 ⟨w2.heap.size, 0, none⟩ c (t.data.toList.set k x) Try.underlying106 Try.underlying5 Try.underlying9 (fun j hj => by
      have hjt : j < t.size := by rw [HLEN.out] at hj; exact hj
      have e1 : (⟨w2.heap.size, 0, none⟩ : Addr).add j = ⟨w2.heap.size, j, none⟩ := by
        unfold Addr.add; split
        · rename_i hz; rw [hz]
        · simp
      rw [e1, HSET.out j hj]
      by_cases hkj : k = j
      · subst hkj
        rw [if_pos rfl]
        exact World.cell?_setCell_same _ _ _ c0
      · rw [if_neg hkj, World.cell?_setCell_other _ _ _ _ (fun h => hkj (congrArg Addr.off h)), hwx j]
        exact hrow j hjt)
    rw [HLEN.out, ← HTU.out, hz] at h0
    exact h0
  have HBX := hid (HB2.out.trans (hbx.mono HB2.out.size))
  have HBY : Hid (Below W.heap.size W (wx.setCell ⟨w2.heap.size, k, none⟩ (.int .u8 (x.toNat : Int)))) := hid (HBX.out.trans ((((Only.refl [w2.heap.size] wx).setCell (p := ⟨w2.heap.size, k, none⟩) (by simp) _).below HBX.out.size (by simpa using HB2.out.size))))
  clear hwx hfx hrow hbx hh
  have d2 : decide (s.size + 4 ≤ k) = false := by rw [decide_eq_false_iff_not]; omega
  have d3 : ((y.toNat : Int) == 0) = false := by rw [beq_eq_false_iff_ne]; omega
  have d4 : (y.toNat == 0) = false := by rw [beq_eq_false_iff_ne]; omega
  rw [← hx] at hback HBY
  clear hx
  generalize (t[k]).toNat = z at c0 hback HBY
  generalize y.toNat = u at *
  generalize hq : bits .xor .u8 (z : Int) (u : Int) = q at hback HBY
  go_wp2_with fail
  refine (HO2.out _).mono ?_
  rintro e' w4 ⟨rfl, hb4⟩
  have HB4 := hid (HBY.out.trans (hb4.mono HBY.out.size))
  clear hb4
  go_wp2_with fail
  refine (HK.out _).mono ?_
  rintro e' w5 ⟨rfl, hb5⟩
  have HB5 := hid (HB4.out.trans (hb5.mono HB4.out.size))
  clear hb5
  go_wp2_with fail
  go_ret
  exact ⟨rfl, HB5.out⟩
end C03
end Go.Proofs.Ythmopkaecbebpaa
