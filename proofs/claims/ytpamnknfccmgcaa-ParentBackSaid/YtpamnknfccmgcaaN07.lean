/- Plain facts of layer 7 (parent): what was written is read as it was, and the other way round; no condition. -/
import Derived.Test.YtpamnknfccmgcaaJ07
import Derived.Test.YtpamnknfccmgcaaO06
namespace Go.Proofs.Ytpamnknfccmgcaa
open Go.RowKit Go.Peri
namespace C07
open C01 C06
theorem ext_mid {s q : ByteArray} {a b : Nat} (p r : List UInt8) (h : s.data.toList = p ++ (q.data.toList ++ r)) (ha : p.length = a) (hb : a + q.size = b) : s.extract a b = q := by
  apply ba_ext
  rw [ext_list, h, ← ha, List.drop_left, ha, ← hb, Nat.add_sub_cancel_left, ← ba_len q, List.take_left]
theorem ext_join (s : ByteArray) (a b c : Nat) (h1 : a ≤ b) (h2 : b ≤ c) : s.extract a b ++ s.extract b c = s.extract a c := by
  apply ba_ext
  rw [ba_list, ext_list, ext_list, ext_list]
  have e : s.data.toList.drop b = (s.data.toList.drop a).drop (b - a) := by rw [List.drop_drop]; congr 1; omega
  have e3 : ((s.data.toList.drop a).drop (b - a)).take (c - b) = ((s.data.toList.drop a).take (c - a)).drop (b - a) := by
    rw [List.drop_take]; congr 1; omega
  have e2 : (List.drop a s.data.toList).take (b - a) = ((List.drop a s.data.toList).take (c - a)).take (b - a) := by
    rw [List.take_take]; congr 1; omega
  rw [e, e3, e2, List.take_append_drop]
theorem ext_all (s : ByteArray) : s.extract 0 s.size = s := by
  apply ba_ext
  rw [ext_list, List.drop_zero, Nat.sub_zero, ← ba_len s, List.take_length]
theorem dashB_mid {s : ByteArray} {k : Nat} (p r : List UInt8) (h : s.data.toList = p ++ (45 :: r)) (hk : p.length = k) : dashB s k = true := by
  unfold dashB
  subst hk
  rw [h, List.getD_eq_getElem?_getD, List.getElem?_append_right (Nat.le_refl _), Nat.sub_self]
  rfl
theorem ext_dash (s : ByteArray) (k : Nat) (hk : k < s.size) (h : dashB s k = true) : s.extract k (k + 1) = dash := by
  apply ba_ext
  have hl : k < s.data.toList.length := by simpa using hk
  rw [ext_list, show k + 1 - k = 1 by omega, List.drop_eq_getElem_cons hl]
  rw [dashB_at s k hk] at h
  have e : s.data.toList[k] = s[k] := rfl
  have e2 : s[k] = 45 := UInt8.toNat_inj.1 (of_decide_eq_true h)
  rw [e, e2]
  rfl
theorem hexAll_of {s : ByteArray} {n : Nat} (h1 : 1 ≤ s.size) (h2 : s.size ≤ 16) (h : unhexR s = (n, 0)) : hexAll s = true := by
  have := unhex_err s h1 h2
  rw [h] at this
  by_cases g : hexAll s = true
  · exact g
  · rw [if_neg g] at this; exact absurd this (show ¬ (0 : Int) = 3 by decide)
theorem fx_back (f : Nat) (h : f < 256) : unhexR (fx f) = (f, 0) := unhex_back f 2 (by decide) (by decide) h
theorem hexAll_app (a b : ByteArray) : hexAll (a ++ b) = (hexAll a && hexAll b) := by unfold hexAll; rw [ba_list, List.all_append]
structure WholeFacts (w A B F : ByteArray) : Prop where
  size : w.size = 55
  ver : w.extract 0 2 = zzs
  tr : w.extract 3 35 = A
  span : w.extract 36 52 = B
  fl : w.extract 53 55 = F
  d2 : dashB w 2 = true
  d35 : dashB w 35 = true
  d52 : dashB w 52 = true
theorem parts_facts (w A B F : ByteArray) (sA : A.size = 32) (sB : B.size = 16) (sF : F.size = 2) (hl : w.data.toList = [48, 48, 45] ++ (A.data.toList ++ ([45] ++ (B.data.toList ++ ([45] ++ F.data.toList))))) : WholeFacts w A B F := by
  have lA := ba_len A
  have lB := ba_len B
  have lF := ba_len F
  refine ⟨?_, ?_, ?_, ?_, ?_, ?_, ?_, ?_⟩
  · rw [← ba_len w, hl]; simp only [List.length_append, List.length_cons, List.length_nil]; omega
  · exact ext_mid [] (45 :: (A.data.toList ++ ([45] ++ (B.data.toList ++ ([45] ++ F.data.toList))))) (by rw [hl]; rfl) rfl rfl
  · exact ext_mid [48, 48, 45] _ hl rfl (by omega)
  · exact ext_mid ([48, 48, 45] ++ (A.data.toList ++ [45])) ([45] ++ F.data.toList) (by rw [hl]; simp only [List.append_assoc]) (by simp only [List.length_append, List.length_cons, List.length_nil]; omega) (by omega)
  · exact ext_mid ([48, 48, 45] ++ (A.data.toList ++ ([45] ++ (B.data.toList ++ [45])))) [] (by rw [hl]; simp only [List.append_assoc, List.append_nil]) (by simp only [List.length_append, List.length_cons, List.length_nil]; omega) (by omega)
  · exact dashB_mid [48, 48] (A.data.toList ++ ([45] ++ (B.data.toList ++ ([45] ++ F.data.toList)))) (by rw [hl]; rfl) rfl
  · exact dashB_mid ([48, 48, 45] ++ A.data.toList) (B.data.toList ++ ([45] ++ F.data.toList)) (by rw [hl]; simp only [List.append_assoc]; rfl) (by simp only [List.length_append, List.length_cons, List.length_nil]; omega)
  · exact dashB_mid ([48, 48, 45] ++ (A.data.toList ++ ([45] ++ B.data.toList))) F.data.toList (by rw [hl]; simp only [List.append_assoc]; rfl) (by simp only [List.length_append, List.length_cons, List.length_nil]; omega)
theorem whole_facts (hi lo sp f : Nat) : WholeFacts (whole hi lo sp f) (txt hi ++ txt lo) (txt sp) (fx f) := by
  refine parts_facts _ _ _ _ (by rw [ByteArray.size_append, txt_size, txt_size]) (txt_size sp) (fx_size f) ?_
  unfold whole
  rw [ba_list, ba_list, ba_list, ba_list, ba_list]
  simp only [List.append_assoc]
  rfl
theorem read_whole (hi lo sp f : Nat) (h1 : hi < 18446744073709551616) (h2 : lo < 18446744073709551616) (h3 : sp < 18446744073709551616) (h4 : f < 256) (hz : ¬ (hi = 0 ∧ lo = 0)) (hs : sp ≠ 0) : readR (whole hi lo sp f) = ((hi, lo, sp, f), 0) := by
  have F := whole_facts hi lo sp f
  have hf : formR (whole hi lo sp f) = true := by
    unfold formR tailR endR
    rw [F.size, F.ver, F.tr, F.span, F.fl, F.d2, F.d35, F.d52, hexAll_app,
      hexAll_of (by rw [txt_size]; omega) (by rw [txt_size]; omega) (unhex_txt hi h1), hexAll_of (by rw [txt_size]; omega) (by rw [txt_size]; omega) (unhex_txt lo h2),
      hexAll_of (by rw [txt_size]; omega) (by rw [txt_size]; omega) (unhex_txt sp h3), hexAll_of (by rw [fx_size]; omega) (by rw [fx_size]; omega) (fx_back f h4)]
    have e1 : zzs ≠ ffs := by decide
    have e2 : hexAll zzs = true := by decide
    simp [e1, e2]
  unfold readR
  rw [if_pos hf, F.tr, F.span, F.fl, ofR_txt hi lo h1 h2, spanOfR_txt sp h3, fx_back f h4, if_neg hz, if_neg hs]
  rfl
theorem write_back (hi lo sp : Nat) (fl : Int) (t : ByteArray) (h1 : hi < 18446744073709551616) (h2 : lo < 18446744073709551616) (h3 : sp < 18446744073709551616) (h : writeR hi lo sp fl = (t, 0)) :
    ∃ f : Nat, fl = (f : Int) ∧ f < 256 ∧ t.size = 55 ∧ readR t = ((hi, lo, sp, f), 0) := by
  unfold writeR at h
  by_cases g1 : (hi = 0 ∧ lo = 0) ∨ sp = 0
  · rw [if_pos g1] at h; cases h
  rw [if_neg g1] at h
  by_cases g2 : fl < 0 ∨ 255 < fl
  · rw [if_pos g2] at h; cases h
  rw [if_neg g2] at h
  obtain ⟨f, rfl⟩ := Int.eq_ofNat_of_zero_le (show 0 ≤ fl by omega)
  rw [Int.toNat_natCast] at h
  cases h
  exact ⟨f, rfl, by omega, (whole_facts hi lo sp f).size, read_whole hi lo sp f h1 h2 h3 (by omega) (fun g => g1 (.inl g)) (fun g => g1 (.inr g))⟩
theorem tail_parts {s : ByteArray} (h : formR s = true) : 55 ≤ s.size ∧ dashB s 2 = true ∧ dashB s 35 = true ∧ dashB s 52 = true ∧ hexAll (s.extract 53 55) = true ∧ endR s = true := by
  unfold formR tailR at h
  simp only [Bool.and_eq_true, decide_eq_true_eq] at h
  obtain ⟨a, _, _, b, _, c, d, e, f⟩ := h
  exact ⟨a, b, c, e, d, f⟩
theorem txt_of {s : ByteArray} {n : Nat} (hs : s.size = 16) (h : unhexR s = (n, 0)) : txt n = s ∧ n < 18446744073709551616 := by
  have := hex_back s n h
  rw [hs] at this
  refine ⟨?_, this.2⟩
  have e := hex_txt n this.2
  rw [show ((16 : Nat) : Int) = 16 from rfl, e] at this
  exact (Prod.mk.inj this.1).1
theorem of_parts (x : ByteArray) (hx : x.size = 32) (h : (ofR x).2 = 0) : ∃ a b, ofR x = ((a, b), 0) ∧ txt a ++ txt b = x ∧ a < 18446744073709551616 ∧ b < 18446744073709551616 ∧ ¬ (a = 0 ∧ b = 0) := by
  have jA := ext_join x 0 16 32 (by omega) (by omega)
  have jA2 := ext_all x
  rw [hx] at jA2
  rw [jA2] at jA
  have s1 : (x.extract 0 16).size = 16 := by rw [ByteArray.size_extract]; omega
  have s2 : (x.extract 16 32).size = 16 := by rw [ByteArray.size_extract]; omega
  have q : ofR x = if x.size = 32 ∧ (unhexR (x.extract 0 16)).2 = 0 ∧ (unhexR (x.extract 16 32)).2 = 0 then (if (unhexR (x.extract 0 16)).1 = 0 ∧ (unhexR (x.extract 16 32)).1 = 0 then ((0, 0), 11) else (((unhexR (x.extract 0 16)).1, (unhexR (x.extract 16 32)).1), 0)) else ((0, 0), 3) := rfl
  by_cases c : x.size = 32 ∧ (unhexR (x.extract 0 16)).2 = 0 ∧ (unhexR (x.extract 16 32)).2 = 0
  case neg => rw [q, if_neg c] at h; exact absurd h (show ¬ (3 : Int) = 0 by decide)
  rw [if_pos c] at q
  by_cases z : (unhexR (x.extract 0 16)).1 = 0 ∧ (unhexR (x.extract 16 32)).1 = 0
  case pos => rw [q, if_pos z] at h; exact absurd h (show ¬ (11 : Int) = 0 by decide)
  rw [if_neg z] at q
  obtain ⟨t1, l1⟩ := txt_of (n := (unhexR (x.extract 0 16)).1) s1 (by rw [← c.2.1])
  obtain ⟨t2, l2⟩ := txt_of (n := (unhexR (x.extract 16 32)).1) s2 (by rw [← c.2.2])
  exact ⟨_, _, q, by rw [t1, t2]; exact jA, l1, l2, z⟩
theorem span_parts (y : ByteArray) (hy : y.size = 16) (h : (spanOfR y).2 = 0) : ∃ a, spanOfR y = (a, 0) ∧ txt a = y ∧ a < 18446744073709551616 ∧ a ≠ 0 := by
  have q : spanOfR y = if y.size = 16 ∧ (unhexR y).2 = 0 then (if (unhexR y).1 = 0 then (0, 11) else ((unhexR y).1, 0)) else (0, 3) := rfl
  by_cases c : y.size = 16 ∧ (unhexR y).2 = 0
  case neg => rw [q, if_neg c] at h; exact absurd h (show ¬ (3 : Int) = 0 by decide)
  rw [if_pos c] at q
  by_cases z : (unhexR y).1 = 0
  case pos => rw [q, if_pos z] at h; exact absurd h (show ¬ (11 : Int) = 0 by decide)
  rw [if_neg z] at q
  obtain ⟨t1, l1⟩ := txt_of (n := (unhexR y).1) hy (by rw [← c.2])
  exact ⟨_, q, t1, l1, z⟩
theorem fx_parts (x : ByteArray) (hx : x.size = 2) (h : hexAll x = true) : ∃ f, unhexR x = (f, 0) ∧ fx f = x ∧ f < 256 := by
  have e : unhexR x = ((unhexR x).1, 0) := by
    have := unhex_err x (by omega) (by omega)
    rw [if_pos h] at this
    rw [← this]
  have hb := unhexR_two x hx
  have k := (hex_back x _ e).1
  rw [hx, show ((2 : Nat) : Int) = 2 from rfl, hex_fx _ hb] at k
  exact ⟨_, e, (Prod.mk.inj k).1, hb⟩
theorem read_back (s : ByteArray) (hi lo sp f : Nat) (h : readR s = ((hi, lo, sp, f), 0)) :
    hi < 18446744073709551616 ∧ lo < 18446744073709551616 ∧ sp < 18446744073709551616 ∧ writeR hi lo sp f = (whole hi lo sp f, 0) ∧ readR (whole hi lo sp f) = ((hi, lo, sp, f), 0) ∧ 2 ≤ s.size ∧ (s.extract 0 2 = zzs → whole hi lo sp f = s) := by
  unfold readR at h
  by_cases hf : formR s = true
  case neg => rw [if_neg hf] at h; cases h
  rw [if_pos hf] at h
  obtain ⟨p55, p2, p35, p52, pf, pe⟩ := tail_parts hf
  by_cases g : (ofR (s.extract 3 35)).2 = 0 ∧ (spanOfR (s.extract 36 52)).2 = 0
  case neg => rw [if_neg g] at h; cases h
  rw [if_pos g] at h
  have x1 : (s.extract 3 35).size = 32 := by rw [ByteArray.size_extract]; omega
  have x2 : (s.extract 36 52).size = 16 := by rw [ByteArray.size_extract]; omega
  have x3 : (s.extract 53 55).size = 2 := by rw [ByteArray.size_extract]; omega
  obtain ⟨a, b, q1, t1, l1, l2, nz⟩ := of_parts _ x1 g.1
  obtain ⟨c, q2, t2, l3, nc⟩ := span_parts _ x2 g.2
  obtain ⟨d, q3, t3, l4⟩ := fx_parts _ x3 pf
  rw [q1, q2, q3] at h
  cases h
  refine ⟨l1, l2, l3, ?_, read_whole _ _ _ _ l1 l2 l3 l4 nz nc, by omega, ?_⟩
  · unfold writeR
    rw [if_neg (by rintro (h | h); exact nz h; exact nc h), if_neg (by omega), Int.toNat_natCast]
  · intro ver
    have hs : s.size = 55 := by
      unfold endR at pe
      rw [ver] at pe
      have e1 : ¬ zzs = ffs := by decide
      simpa [e1] using pe
    have ep : pre = s.extract 0 3 := by rw [← ext_join s 0 2 3 (by omega) (by omega), ver, ext_dash s 2 (by omega) p2]; rfl
    have e35 := ext_dash s 35 (by omega) p35
    have e52 := ext_dash s 52 (by omega) p52
    unfold whole
    rw [t1, t2, t3, ep]
    conv => lhs; lhs; lhs; lhs; rhs; rw [← e35]
    conv => lhs; lhs; rhs; rw [← e52]
    rw [ext_join s 0 3 35 (by omega) (by omega), ext_join s 0 35 36 (by omega) (by omega), ext_join s 0 36 52 (by omega) (by omega), ext_join s 0 52 53 (by omega) (by omega), ext_join s 0 53 55 (by omega) (by omega)]
    have := ext_all s
    rwa [hs] at this
end C07
end Go.Proofs.Ytpamnknfccmgcaa
