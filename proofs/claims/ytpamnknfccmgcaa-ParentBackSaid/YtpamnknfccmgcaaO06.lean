/- Plain facts of layer 6 (ids): numbers come back of their texts; no condition. -/
import Derived.Test.YtpamnknfccmgcaaM01
import Derived.Test.YtpamnknfccmgcaaE06
namespace Go.Proofs.Ytpamnknfccmgcaa
open Go.RowKit Go.Peri
namespace C06
open C01

theorem unhex_txt (n : Nat) (h : n < 18446744073709551616) : unhexR (txt n) = (n, 0) := unhex_back n 16 (by decide) (by decide) h
theorem ba_list (a b : ByteArray) : (a ++ b).data.toList = a.data.toList ++ b.data.toList := by simp
theorem ba_ext {a b : ByteArray} (h : a.data.toList = b.data.toList) : a = b := ByteArray.ext (Array.toList_inj.1 h)
theorem ba_len (a : ByteArray) : a.data.toList.length = a.size := Array.length_toList
theorem ba_append_inj {a b c d : ByteArray} (h : a ++ b = c ++ d) (hs : a.size = c.size) : a = c ∧ b = d := by
  have h1 : a.data.toList ++ b.data.toList = c.data.toList ++ d.data.toList := by rw [← ba_list, ← ba_list, h]
  have h2 := List.append_inj h1 (by rw [ba_len, ba_len, hs])
  exact ⟨ba_ext h2.1, ba_ext h2.2⟩
theorem txt_inj {n m : Nat} (hn : n < 18446744073709551616) (hm : m < 18446744073709551616) (h : txt n = txt m) : n = m := by
  have h1 := unhex_txt n hn
  rw [h, unhex_txt m hm] at h1
  exact (congrArg Prod.fst h1).symm
theorem pair_inj {a b c d : Nat} (ha : a < 18446744073709551616) (hb : b < 18446744073709551616) (hc : c < 18446744073709551616) (hd : d < 18446744073709551616) :
    txt a ++ txt b = txt c ++ txt d ↔ a = c ∧ b = d := by
  constructor
  · intro h
    obtain ⟨h1, h2⟩ := ba_append_inj h (by rw [txt_size, txt_size])
    exact ⟨txt_inj ha hc h1, txt_inj hb hd h2⟩
  · rintro ⟨rfl, rfl⟩; rfl
theorem ba_high (a b : ByteArray) : (a ++ b).extract 0 a.size = a := by
  apply ba_ext
  rw [ByteArray.data_extract, Array.toList_extract, ba_list, List.extract_eq_take_drop, List.drop_zero, Nat.sub_zero, ← ba_len a, List.take_left]
theorem ba_low (a b : ByteArray) : (a ++ b).extract a.size (a.size + b.size) = b := by
  apply ba_ext
  rw [ByteArray.data_extract, Array.toList_extract, ba_list, List.extract_eq_take_drop, Nat.add_sub_cancel_left, ← ba_len a, List.drop_left, ← ba_len b, List.take_length]
theorem ofR_txt (a b : Nat) (ha : a < 18446744073709551616) (hb : b < 18446744073709551616) : ofR (txt a ++ txt b) = if a = 0 ∧ b = 0 then ((0, 0), 11) else ((a, b), 0) := by
  have e1 := ba_high (txt a) (txt b)
  have e2 := ba_low (txt a) (txt b)
  rw [txt_size] at e1 e2
  rw [txt_size] at e2
  unfold ofR
  rw [e1, show (32 : Nat) = 16 + 16 from rfl, e2, unhex_txt a ha, unhex_txt b hb, if_pos ⟨by rw [ByteArray.size_append, txt_size, txt_size], rfl, rfl⟩]
theorem spanOfR_txt (a : Nat) (ha : a < 18446744073709551616) : spanOfR (txt a) = if a = 0 then (0, 11) else (a, 0) := by
  unfold spanOfR
  rw [unhex_txt a ha, if_pos ⟨txt_size a, rfl⟩]
end C06
end Go.Proofs.Ytpamnknfccmgcaa
