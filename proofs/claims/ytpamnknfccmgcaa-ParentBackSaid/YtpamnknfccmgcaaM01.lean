/- Walk of layer 1 (octet): what comes back; no condition. -/
import Derived.Test.YtpamnknfccmgcaaK01
namespace Go.Proofs.Ytpamnknfccmgcaa
open Go.RowKit Go.Peri
namespace C01

theorem ofNats_bytes (l : List Nat) (h : ∀ d ∈ l, d < 256) : (ofNats l).data.toList.map UInt8.toNat = l := by
  unfold ofNats
  rw [List.map_map]
  conv => rhs; rw [← List.map_id l]
  refine List.map_congr_left fun d hd => ?_
  have := h d hd
  show (UInt8.ofNat d).toNat = d
  rw [UInt8.toNat_ofNat']; omega
theorem bytesAt_mid (s t : ByteArray) (l : List Nat) (h : ∀ d ∈ l, d < 256) : bytesAt (s ++ ofNats l ++ t) s.size l.length = l := by
  unfold bytesAt
  have hl : (ofNats l).data.toList.length = l.length := by simp [ofNats]
  rw [ByteArray.data_append, ByteArray.data_append, Array.toList_append, Array.toList_append, List.append_assoc,
    show s.size = s.data.toList.length from (Array.length_toList).symm, List.drop_left, ← hl, List.take_left, ofNats_bytes l h]
theorem get_back (s t : ByteArray) (n k : Nat) (h1 : 1 ≤ k) (h2 : k ≤ 8) (hn : n < 256 ^ k) : getR (s ++ ofNats (Oct.dg 256 n k) ++ t) (s.size : Int) (k : Int) = (n, 0) := by
  unfold getR
  have hl := Oct.dg_length 256 n k
  rw [if_pos (by omega), if_pos (by rw [ByteArray.size_append, ByteArray.size_append, ofNats_size, hl]; omega)]
  have e := bytesAt_mid s t (Oct.dg 256 n k) (Oct.dg_lt 256 n (by decide) k)
  rw [hl] at e
  rw [Int.toNat_natCast, Int.toNat_natCast, e, Oct.val_dg 256 n (by decide), Nat.mod_eq_of_lt hn]
theorem hv_hexd (d : Nat) (h : d < 16) : hv (hexd d) = d := by
  unfold hexd
  split
  · unfold hv; rw [if_pos (by omega)]; omega
  · unfold hv; rw [if_neg (by omega), if_pos (by omega)]; omega
theorem hexd_hv (c : Nat) (h : hv c < 16) : hexd (hv c) = c := by
  unfold hv at h ⊢
  split
  · unfold hexd; rw [if_pos (by omega)]; omega
  · split
    · unfold hexd; rw [if_neg (by omega)]; omega
    · rename_i g1 g2; rw [if_neg g1, if_neg g2] at h; omega
theorem hvs_all (s : ByteArray) : hvs s s.size = (s.data.toList.map UInt8.toNat).map hv := by
  unfold hvs bytesAt
  rw [List.drop_zero, show s.size = s.data.toList.length from (Array.length_toList).symm, List.take_length]
theorem unhex_back (n k : Nat) (h1 : 1 ≤ k) (h2 : k ≤ 16) (hn : n < 16 ^ k) : unhexR (ofNats ((Oct.dg 16 n k).map hexd)) = (n, 0) := by
  have hl := Oct.dg_length 16 n k
  have hd := Oct.dg_lt 16 n (by decide) k
  have e : hvs (ofNats ((Oct.dg 16 n k).map hexd)) (ofNats ((Oct.dg 16 n k).map hexd)).size = Oct.dg 16 n k := by
    rw [hvs_all, ofNats_bytes _ (fun d hd' => by
      obtain ⟨x, hx, rfl⟩ := List.mem_map.1 hd'
      exact hexd_lt x (hd x hx)), List.map_map]
    conv => rhs; rw [← List.map_id (Oct.dg 16 n k)]
    exact List.map_congr_left fun d hd' => hv_hexd d (hd d hd')
  unfold unhexR
  rw [e, if_pos ⟨by rw [ofNats_size, List.length_map]; omega, by rw [ofNats_size, List.length_map]; omega, hd⟩, Oct.val_dg 16 n (by decide), Nat.mod_eq_of_lt hn]
theorem hex_back (s : ByteArray) (m : Nat) (h : unhexR s = (m, 0)) : hexR m (s.size : Int) = (s, 0) ∧ m < 18446744073709551616 := by
  unfold unhexR at h
  split at h
  · rename_i g
    obtain ⟨g1, g2, g3⟩ := g
    have hm : Oct.val 16 (hvs s s.size) = m := (Prod.mk.inj h).1
    have hl : (hvs s s.size).length = s.size := by rw [hvs_all, List.length_map, List.length_map]; exact Array.length_toList
    have hlt := Oct.val_lt 16 _ g3
    rw [hl, hm] at hlt
    have hdg := Oct.dg_val 16 (by decide) _ g3 0
    rw [Nat.zero_mul, Nat.zero_add, hl, hm] at hdg
    have hmap : (hvs s s.size).map hexd = s.data.toList.map UInt8.toNat := by
      rw [hvs_all] at g3 ⊢
      rw [List.map_map]
      conv => rhs; rw [← List.map_id (s.data.toList.map UInt8.toNat)]
      refine List.map_congr_left fun c hc => ?_
      exact hexd_hv c (g3 _ (List.mem_map.2 ⟨c, hc, rfl⟩))
    refine ⟨?_, Nat.lt_of_lt_of_le hlt (Nat.le_trans (Nat.pow_le_pow_right (by decide) g2) (by decide))⟩
    unfold hexR
    rw [if_pos (by omega), Int.toNat_natCast, if_pos hlt, hdg, hmap]
    have : ofNats (s.data.toList.map UInt8.toNat) = s := by
      unfold ofNats
      rw [List.map_map]
      have e2 : s.data.toList.map (UInt8.ofNat ∘ UInt8.toNat) = s.data.toList := by
        conv => rhs; rw [← List.map_id s.data.toList]
        refine List.map_congr_left fun c hc => ?_
        simp
      rw [e2]
    rw [this]
  · have := (Prod.mk.inj h).2; omega

theorem put_cases (n : Nat) (w : Int) (s t : ByteArray) : (∃ a, Hid (putR n w = (a, 0)) ∧ Hid (getR (s ++ a ++ t) s.size w = (n, 0)) ∧ (a.size : Int) = w ∧ a.size ≤ 16) ∨ (∃ a e, Hid (putR n w = (a, e)) ∧ ¬ e = 0) := by
  by_cases h1 : 1 ≤ w ∧ w ≤ 8
  · obtain ⟨k, rfl⟩ := Int.eq_ofNat_of_zero_le (show 0 ≤ w by omega)
    by_cases h2 : n < 256 ^ k
    · refine .inl ⟨ofNats (Oct.dg 256 n k), ?_, ?_, ?_, ?_⟩
      · show putR _ _ = _; unfold putR; rw [if_pos h1, Int.toNat_natCast, if_pos h2]
      · show getR _ _ _ = _; exact get_back s t n k (by omega) (by omega) h2
      · rw [ofNats_size, Oct.dg_length]
      · rw [ofNats_size, Oct.dg_length]; omega
    · refine .inr ⟨ByteArray.empty, 12, ?_, by decide⟩
      show putR _ _ = (ByteArray.empty, 12); unfold putR; rw [if_pos h1, Int.toNat_natCast, if_neg h2]
  · refine .inr ⟨ByteArray.empty, 2, ?_, by decide⟩
    show putR _ _ = (ByteArray.empty, 2); unfold putR; rw [if_neg h1]
theorem hex_cases (n : Nat) (w : Int) : (∃ b, Hid (hexR n w = (b, 0)) ∧ Hid (unhexR b = (n, 0)) ∧ (b.size : Int) = w ∧ b.size ≤ 16) ∨ (∃ a e, Hid (hexR n w = (a, e)) ∧ ¬ e = 0) := by
  by_cases h1 : 1 ≤ w ∧ w ≤ 16
  · obtain ⟨k, rfl⟩ := Int.eq_ofNat_of_zero_le (show 0 ≤ w by omega)
    by_cases h2 : n < 16 ^ k
    · refine .inl ⟨ofNats ((Oct.dg 16 n k).map hexd), ?_, ?_, ?_, ?_⟩
      · show hexR _ _ = _; unfold hexR; rw [if_pos h1, Int.toNat_natCast, if_pos h2]
      · show unhexR _ = _; exact unhex_back n k (by omega) (by omega) h2
      · rw [ofNats_size, List.length_map, Oct.dg_length]
      · rw [ofNats_size, List.length_map, Oct.dg_length]; omega
    · refine .inr ⟨ByteArray.empty, 12, ?_, by decide⟩
      show hexR _ _ = (ByteArray.empty, 12); unfold hexR; rw [if_pos h1, Int.toNat_natCast, if_neg h2]
  · refine .inr ⟨ByteArray.empty, 2, ?_, by decide⟩
    show hexR _ _ = (ByteArray.empty, 2); unfold hexR; rw [if_neg h1]
theorem unhex_cases (s : ByteArray) : (∃ m, Hid (unhexR s = (m, 0)) ∧ Hid (hexR m s.size = (s, 0)) ∧ m < 18446744073709551616) ∨ (∃ a e, Hid (unhexR s = (a, e)) ∧ ¬ e = 0) := by
  by_cases h : (unhexR s).2 = 0
  · have e : unhexR s = ((unhexR s).1, 0) := by rw [← h]
    exact .inl ⟨_, e, (hex_back s _ e).1, (hex_back s _ e).2⟩
  · exact .inr ⟨_, _, rfl, h⟩
end C01
end Go.Proofs.Ytpamnknfccmgcaa
