/- Walks of layer 4 (head): the laws; no condition. -/
import Derived.Test.YtpamnknfccmgcaaT04
namespace Go.Proofs.Ytpamnknfccmgcaa
open Go.RowKit Go.Peri
namespace C04
/-- What must come of fixed calls. -/
def Known : Prop := ∀ W : World, Calls Try.prog 28 #[] W fun e w' => e = .returned (.bool true) ∧ Below W.heap.size W w'

set_option maxRecDepth 100000 in
set_option maxHeartbeats 1000000 in
theorem may_walk (K : Known) (v : Value) (l : List Hd) (s : ByteArray) (W : World) (h : RowsOf (· < W.heap.size) Hd.enc 2 W v l) (hw : ∀ x ∈ l, x.Wf) (hl : l.length ≤ 1000000000000000) (hs : s.size ≤ 140737488351232) :
    Calls Try.prog 3 #[v, .string s] W fun e w' => e = .returned (.bool true) ∧ Below W.heap.size W w' := by
  obtain ⟨r, hr⟩ : ∃ r, Hd.few l = r := ⟨_, rfl⟩
  have HF := hid (few_any v l r W h (fun b hb => hb) hw hl hr)
  have HL : Hid (∀ w', Below W.heap.size W w' → RowsOf (· < W.heap.size) Hd.enc 2 w' v l ∧ ∀ b, b < W.heap.size → b < w'.heap.size) := hid (fun w' hw => ⟨h.below hw (fun b hb => hb), fun b hb => Nat.lt_of_lt_of_le hb hw.size⟩)
  have HWF := hid hw
  have HK := hid K
  have HR := hid hr
  clear h hw K hr
  cases r
  · go_enter Try.func3, Try.ntmps3
    go_wp2_with fail
    refine HF.out.mono ?_
    rintro e w1 ⟨rfl, hb1⟩
    have HB1 := hid hb1
    clear hb1
    go_wp2_with fail
    refine (HK.out _).mono ?_
    rintro e w2 ⟨rfl, hb2⟩
    have HB2 := hid (HB1.out.trans (hb2.mono HB1.out.size))
    clear hb2
    go_wp2_with fail
    go_ret
    exact ⟨rfl, HB2.out⟩
  · by_cases h4 : 400 < s.size
    · go_enter Try.func3, Try.ntmps3
      go_wp2_with fail
      refine HF.out.mono ?_
      rintro e w1 ⟨rfl, hb1⟩
      have HB1 := hid hb1
      clear hb1
      go_wp2_with fail
      refine (HK.out _).mono ?_
      rintro e w2 ⟨rfl, hb2⟩
      have HB2 := hid (HB1.out.trans (hb2.mono HB1.out.size))
      clear hb2
      go_wp2_with fail
      go_ret
      exact ⟨rfl, HB2.out⟩
    · have hl60 := hid (Hd.few_len HR.out)
      have HN1 := hid (fun w => name_any s w (by omega))
      have HN2 := hid (fun w => rname_any s w (by omega))
      have HV1 := hid (fun w => value_any s w (by omega))
      have HV2 := hid (fun w => rvalue_any s w (by omega))
      generalize Hd.nameOk s = bn at HN1 HN2
      generalize Hd.valueOk s = bv at HV1 HV2
      have HC1 := hid (fun w' (hw' : Below W.heap.size W w') => check_any v l w' (HL.out w' hw').1 (HL.out w' hw').2 HWF.out (by have := hl60.out; omega))
      have HC2 := hid (fun w' (hw' : Below W.heap.size W w') => rcheck_any v l w' (HL.out w' hw').1 HWF.out (by have := hl60.out; omega))
      generalize Hd.checkR l = ce at HC1 HC2
      have e0 : (ce == ce) = true := by simp
      go_enter Try.func3, Try.ntmps3
      go_wp2_with fail
      refine HF.out.mono ?_
      rintro e w1 ⟨rfl, hb1⟩
      have HB1 := hid hb1
      clear hb1
      go_wp2_with fail
      refine (HN1.out _).mono ?_
      rintro e w' ⟨rfl, rfl⟩
      go_wp2_with fail
      refine (HN2.out _).mono ?_
      rintro e w' ⟨rfl, rfl⟩
      go_wp2_with fail
      refine (HV1.out _).mono ?_
      rintro e w' ⟨rfl, rfl⟩
      go_wp2_with fail
      refine (HV2.out _).mono ?_
      rintro e w' ⟨rfl, rfl⟩
      go_wp2_with fail
      refine (HC1.out _ HB1.out).mono ?_
      rintro e w2 ⟨rfl, hb2⟩
      have HB2 := hid (HB1.out.trans (hb2.mono HB1.out.size))
      clear hb2
      go_wp2_with fail
      refine (HC2.out _ HB2.out).mono ?_
      rintro e w' ⟨rfl, rfl⟩
      go_wp2_with fail
      refine (HK.out _).mono ?_
      rintro e w3 ⟨rfl, hb3⟩
      have HB3 := hid (HB2.out.trans (hb3.mono HB2.out.size))
      clear hb3
      go_wp2_with fail
      go_ret
      exact ⟨rfl, HB3.out⟩

set_option maxRecDepth 100000 in
set_option maxHeartbeats 2000000 in
theorem lists_walk (K : Known) (v vn : Value) (l : List Hd) (n u : ByteArray) (ns : List ByteArray) (W : World) (h : RowsOf (· < W.heap.size) Hd.enc 2 W v l) (hw : ∀ x ∈ l, x.Wf) (hl : l.length ≤ 1000000000000000) (h2 : RowsOf (· < W.heap.size) sEnc 1 W vn ns) (hln : ns.length ≤ 1000000000000000) :
    Calls Try.prog 4 #[v, .string n, .string u, vn] W fun e w' => e = .returned (.bool true) ∧ Below W.heap.size W w' := by
  obtain ⟨r, hr⟩ : ∃ r, Hd.few l = r := ⟨_, rfl⟩
  have HF := hid (few_any v l r W h (fun b hb => hb) hw hl hr)
  have HL : Hid (∀ w', Below W.heap.size W w' → RowsOf (· < W.heap.size) Hd.enc 2 w' v l ∧ ∀ b, b < W.heap.size → b < w'.heap.size) := hid (fun w' hw => ⟨h.below hw (fun b hb => hb), fun b hb => Nat.lt_of_lt_of_le hb hw.size⟩)
  have HN : Hid (∀ w', Below W.heap.size W w' → RowsOf (· < W.heap.size) sEnc 1 w' vn ns ∧ ∀ b, b < W.heap.size → b < w'.heap.size) := hid (fun w' hw => ⟨h2.below hw (fun b hb => hb), fun b hb => Nat.lt_of_lt_of_le hb hw.size⟩)
  obtain ⟨an, cn, rfl⟩ := h2.form
  have HK := hid K
  have HR := hid hr
  clear h hw K hr h2
  cases r
  · go_enter Try.func4, Try.ntmps4
    go_wp2_with fail
    refine HF.out.mono ?_
    rintro e w1 ⟨rfl, hb1⟩
    have HB1 := hid hb1
    clear hb1
    go_wp2_with fail
    refine (HK.out _).mono ?_
    rintro e w2 ⟨rfl, hb2⟩
    have HB2 := hid (HB1.out.trans (hb2.mono HB1.out.size))
    clear hb2
    go_wp2_with fail
    go_ret
    exact ⟨rfl, HB2.out⟩
  · by_cases h4 : 20 < ns.length
    · go_enter Try.func4, Try.ntmps4
      go_wp2_with fail
      refine HF.out.mono ?_
      rintro e w1 ⟨rfl, hb1⟩
      have HB1 := hid hb1
      clear hb1
      go_wp2_with fail
      refine (HK.out _).mono ?_
      rintro e w2 ⟨rfl, hb2⟩
      have HB2 := hid (HB1.out.trans (hb2.mono HB1.out.size))
      clear hb2
      go_wp2_with fail
      go_ret
      exact ⟨rfl, HB2.out⟩
    · have hl60 := hid (Hd.few_len HR.out)
      obtain ⟨g, hg⟩ : ∃ g, Hd.getR l n = g := ⟨_, rfl⟩
      have HG1 := hid (fun w' (hw' : Below W.heap.size W w') => get_any v l n g w' (HL.out w' hw').1 (HL.out w' hw').2 (by have := hl60.out; omega) hg)
      have HG2 := hid (fun w' (hw' : Below W.heap.size W w') => rget_any v l n g w' (HL.out w' hw').1 (HL.out w' hw').2 (by have := hl60.out; omega) hg)
      obtain ⟨ga, hga⟩ : ∃ x, x = g.1 := ⟨_, rfl⟩
      obtain ⟨gb, hgb⟩ : ∃ x, x = g.2 := ⟨_, rfl⟩
      rw [← hga, ← hgb] at HG1 HG2
      obtain ⟨m1, hm1⟩ : ∃ m, Hd.allR l n = m := ⟨_, rfl⟩
      have HA1 := hid (fun w' (hw' : Below W.heap.size W w') => (all_any v l n w' (HL.out w' hw').1 (HL.out w' hw').2 (by have := hl60.out; omega)).mono (fun _ _ h => h.newR (n := m1.length) sEnc_length hm1 rfl))
      have HA2 := hid (fun w' (hw' : Below W.heap.size W w') => (rall_any v l n w' (HL.out w' hw').1 (HL.out w' hw').2 (by have := hl60.out; omega)).mono (fun _ _ h => h.newR (n := m1.length) sEnc_length hm1 rfl))
      have L1 : Hid (m1.length ≤ 1000000) := hid (by have := Hd.allR_len l n; rw [hm1] at this; have := hl60.out; omega)
      obtain ⟨m2, hm2⟩ : ∃ m, l ++ [⟨n, u⟩] = m := ⟨_, rfl⟩
      have HD1 := hid (fun w' (hw' : Below W.heap.size W w') => (add_any v l m2 n u w' (HL.out w' hw').1 (HL.out w' hw').2 (by have := hl60.out; omega) hm2).mono (fun _ _ h => h.newR (n := m2.length) Hd.enc_length rfl rfl))
      have HD2 := hid (fun w' (hw' : Below W.heap.size W w') => (radd_any v l m2 n u w' (HL.out w' hw').1 (by have := hl60.out; omega) hm2).mono (fun _ _ h => h.newR (n := m2.length) Hd.enc_length rfl rfl))
      have L2 : Hid (m2.length ≤ 1000000) := hid (by rw [← hm2, List.length_append]; simp; have := hl60.out; omega)
      obtain ⟨m3, hm3⟩ : ∃ m, Hd.setR l n u = m := ⟨_, rfl⟩
      have HS1 := hid (fun w' (hw' : Below W.heap.size W w') => (set_any v l m3 n u w' (HL.out w' hw').1 (HL.out w' hw').2 (by have := hl60.out; omega) hm3).mono (fun _ _ h => h.newR (n := m3.length) Hd.enc_length rfl rfl))
      have HS2 := hid (fun w' (hw' : Below W.heap.size W w') => (rset_any v l n u w' (HL.out w' hw').1 (HL.out w' hw').2 (by have := hl60.out; omega)).mono (fun _ _ h => h.newR (n := m3.length) Hd.enc_length hm3 rfl))
      have L3 : Hid (m3.length ≤ 1000000) := hid (by
        have h1 := Hd.out_len l n u
        have h2 := Hd.outR_len l [n]
        rw [Hd.out_set, hm3] at h1
        have := hl60.out; omega)
      obtain ⟨m4, hm4⟩ : ∃ m, Hd.outR l ns = m := ⟨_, rfl⟩
      have HW1 := hid (fun w' (hw' : Below W.heap.size W w') => (without_any v _ l m4 ns w' (HL.out w' hw').1 (HL.out w' hw').2 (by have := hl60.out; omega) (HN.out w' hw').1 (HN.out w' hw').2 (by omega) hm4).mono (fun _ _ h => h.newR (n := m4.length) Hd.enc_length rfl rfl))
      have HW2 := hid (fun w' (hw' : Below W.heap.size W w') => (rwithout_any v _ l ns w' (HL.out w' hw').1 (HL.out w' hw').2 (by have := hl60.out; omega) (HN.out w' hw').1 (HN.out w' hw').2 (by omega)).mono (fun _ _ h => h.newR (n := m4.length) Hd.enc_length hm4 rfl))
      have L4 : Hid (m4.length ≤ 1000000) := hid (by have := Hd.outR_len l ns; rw [hm4] at this; have := hl60.out; omega)
      obtain ⟨s1, s2⟩ := strEq_of (decide_eq_true (rfl : ga = ga))
      clear hg hga hgb hm1 hm2 hm3 hm4 HR
      go_enter Try.func4, Try.ntmps4
      go_wp2_with fail
      refine HF.out.mono ?_
      rintro e w1 ⟨rfl, hb1⟩
      have HB1 := hid hb1
      clear hb1
      go_wp2_with fail
      refine (HG1.out _ HB1.out).mono ?_
      rintro e w2 ⟨rfl, hb2⟩
      have HB2 := hid (HB1.out.trans (hb2.mono HB1.out.size))
      clear hb2
      go_wp2_with fail
      refine (HG2.out _ HB2.out).mono ?_
      rintro e w3 ⟨rfl, hb3⟩
      have HB3 := hid (HB2.out.trans (hb3.mono HB2.out.size))
      clear hb3
      go_wp2_with fail
      refine (HA1.out _ HB3.out).mono ?_
      rintro e w4 ⟨a4, c4, rfl, hb4, r4⟩
      have HB4 := hid (HB3.out.trans (hb4.mono HB3.out.size))
      clear hb4
      go_wp2_with fail
      refine (HA2.out _ HB4.out).mono ?_
      rintro e w5 ⟨a5, c5, rfl, hb5, r5⟩
      have HB5 := hid (HB4.out.trans (hb5.mono HB4.out.size))
      have R4 := hid (r4.out.later hb5)
      clear hb5 r4
      go_wp2_with fail
      refine (texts_list _ _ m1 _ R4.out r5.out L1.out).mono ?_
      rintro e w6 ⟨rfl, hb6⟩
      have HB6 := hid (HB5.out.trans (hb6.mono HB5.out.size))
      clear hb6 R4 r5
      go_wp2_with fail
      refine (HD1.out _ HB6.out).mono ?_
      rintro e w7 ⟨a7, c7, rfl, hb7, r7⟩
      have HB7 := hid (HB6.out.trans (hb7.mono HB6.out.size))
      clear hb7
      go_wp2_with fail
      refine (HD2.out _ HB7.out).mono ?_
      rintro e w8 ⟨a8, c8, rfl, hb8, r8⟩
      have HB8 := hid (HB7.out.trans (hb8.mono HB7.out.size))
      have R7 := hid (r7.out.later hb8)
      clear hb8 r7
      go_wp2_with fail
      refine (same_list _ _ m2 _ R7.out r8.out L2.out).mono ?_
      rintro e w9 ⟨rfl, hb9⟩
      have HB9 := hid (HB8.out.trans (hb9.mono HB8.out.size))
      clear hb9 R7 r8
      go_wp2_with fail
      refine (HS1.out _ HB9.out).mono ?_
      rintro e w10 ⟨a10, c10, rfl, hb10, r10⟩
      have HB10 := hid (HB9.out.trans (hb10.mono HB9.out.size))
      clear hb10
      go_wp2_with fail
      refine (HS2.out _ HB10.out).mono ?_
      rintro e w11 ⟨a11, c11, rfl, hb11, r11⟩
      have HB11 := hid (HB10.out.trans (hb11.mono HB10.out.size))
      have R10 := hid (r10.out.later hb11)
      clear hb11 r10
      go_wp2_with fail
      refine (same_list _ _ m3 _ R10.out r11.out L3.out).mono ?_
      rintro e w12 ⟨rfl, hb12⟩
      have HB12 := hid (HB11.out.trans (hb12.mono HB11.out.size))
      clear hb12 R10 r11
      go_wp2_with fail
      refine (HW1.out _ HB12.out).mono ?_
      rintro e w13 ⟨a13, c13, rfl, hb13, r13⟩
      have HB13 := hid (HB12.out.trans (hb13.mono HB12.out.size))
      clear hb13
      go_wp2_with fail
      refine (HW2.out _ HB13.out).mono ?_
      rintro e w14 ⟨a14, c14, rfl, hb14, r14⟩
      have HB14 := hid (HB13.out.trans (hb14.mono HB13.out.size))
      have R13 := hid (r13.out.later hb14)
      clear hb14 r13
      go_wp2_with fail
      refine (same_list _ _ m4 _ R13.out r14.out L4.out).mono ?_
      rintro e w15 ⟨rfl, hb15⟩
      have HB15 := hid (HB14.out.trans (hb15.mono HB14.out.size))
      clear hb15 R13 r14
      go_wp2_with fail
      refine (HK.out _).mono ?_
      rintro e w16 ⟨rfl, hb16⟩
      have HB16 := hid (HB15.out.trans (hb16.mono HB15.out.size))
      clear hb16
      go_wp2_with fail
      go_ret
      exact ⟨rfl, HB16.out⟩

set_option maxRecDepth 100000 in
set_option maxHeartbeats 2000000 in
theorem sets_walk (K : Known) (v : Value) (l : List Hd) (n u : ByteArray) (W : World) (h : RowsOf (· < W.heap.size) Hd.enc 2 W v l) (hw : ∀ x ∈ l, x.Wf) (hl : l.length ≤ 1000000000000000) :
    Calls Try.prog 5 #[v, .string n, .string u] W fun e w' => e = .returned (.bool true) ∧ Below W.heap.size W w' := by
  obtain ⟨r, hr⟩ : ∃ r, Hd.few l = r := ⟨_, rfl⟩
  have HF := hid (few_any v l r W h (fun b hb => hb) hw hl hr)
  have HL : Hid (∀ w', Below W.heap.size W w' → RowsOf (· < W.heap.size) Hd.enc 2 w' v l ∧ ∀ b, b < W.heap.size → b < w'.heap.size) := hid (fun w' hw => ⟨h.below hw (fun b hb => hb), fun b hb => Nat.lt_of_lt_of_le hb hw.size⟩)
  have HK := hid K
  have HR := hid hr
  clear h hw K hr
  cases r
  · go_enter Try.func5, Try.ntmps5
    go_wp2_with fail
    refine HF.out.mono ?_
    rintro e w1 ⟨rfl, hb1⟩
    have HB1 := hid hb1
    clear hb1
    go_wp2_with fail
    refine (HK.out _).mono ?_
    rintro e w2 ⟨rfl, hb2⟩
    have HB2 := hid (HB1.out.trans (hb2.mono HB1.out.size))
    clear hb2
    go_wp2_with fail
    go_ret
    exact ⟨rfl, HB2.out⟩
  · have hl60 := hid (Hd.few_len HR.out)
    obtain ⟨m3, hm3⟩ : ∃ m, Hd.setR l n u = m := ⟨_, rfl⟩
    obtain ⟨m4, hm4⟩ : ∃ m, Hd.outR l [n] = m := ⟨_, rfl⟩
    have hal := Hd.allR_set l n u
    have hos := Hd.out_set l n u
    have hlen := Hd.out_len l n u
    have hgo := Hd.get_out l n
    rw [hm3] at hal
    rw [hm3, hm4] at hos
    rw [hm3, hos] at hlen
    rw [hm4] at hgo
    have HS1 := hid (fun w' (hw' : Below W.heap.size W w') => (set_any v l m3 n u w' (HL.out w' hw').1 (HL.out w' hw').2 (by have := hl60.out; omega) hm3).mono (fun _ _ h => h.newR (n := m3.length) Hd.enc_length rfl rfl))
    have L4 : Hid (m4.length ≤ 1000000) := hid (by have := Hd.outR_len l [n]; rw [hm4] at this; have := hl60.out; omega)
    have L3 : Hid (m3.length ≤ 1000000) := hid (by have := L4.out; have := Hd.outR_len l [n]; rw [hm4] at this; have := hl60.out; omega)
    have HA1 := hid (fun w' (x : Value) (hx : Reads Hd.enc 2 w' x m3) => by
      obtain ⟨p, hp, hr⟩ := hx
      exact (all_any x m3 n w' hr hp (by have := L3.out; omega)).mono (fun _ _ h => h.newR (n := 1) sEnc_length hal rfl))
    have HWx := hid (fun w' (x y : Value) (hx : Reads Hd.enc 2 w' x m3) (hy : Reads sEnc 1 w' y [n]) => by
      obtain ⟨p, hp, hr⟩ := hx
      obtain ⟨q, hq, hr2⟩ := hy
      exact (without_any x y m3 m4 [n] w' hr hp (by have := L3.out; omega) hr2 hq (by simp) hos).mono (fun _ _ h => h.newR (n := m4.length) Hd.enc_length rfl rfl))
    have HWl := hid (fun w' (hw' : Below W.heap.size W w') (y : Value) (hy : Reads sEnc 1 w' y [n]) => by
      obtain ⟨q, hq, hr2⟩ := hy
      exact (without_any v y l m4 [n] w' (HL.out w' hw').1 (HL.out w' hw').2 (by have := hl60.out; omega) hr2 hq (by simp) hm4).mono (fun _ _ h => h.newR (n := m4.length) Hd.enc_length rfl rfl))
    have HG := hid (fun w' (x : Value) (hx : Reads Hd.enc 2 w' x m4) => by
      obtain ⟨p, hp, hr⟩ := hx
      exact get_any x m4 n (ByteArray.empty, false) w' hr hp (by have := L4.out; omega) hgo)
    have HLit := hid (fun w' : World => Reads.blk sEnc_length (n := 1) (l := [n]) (Blk.new w' #[.string n] 9) rfl (by decide))
    obtain ⟨s1, s2⟩ := strEq_of (decide_eq_true (rfl : u = u))
    have HLEN := hid hlen
    have l4 : m4.length ≤ 1000000 := L4.out
    have l3 : m3.length ≤ 1000000 := L3.out
    have e9 : ((m4.length : Int) + 1 == (m3.length : Int)) = true := by rw [beq_iff_eq]; omega
    clear hm3 hm4 hal hos hgo hlen HR
    generalize hq3 : m3.length = n3 at l3 e9 HS1 HLEN L3
    generalize hq4 : m4.length = n4 at l4 e9 HWx HWl HLEN L4
    have Q4 := hid hq4
    clear hq3 hq4 HLEN
    go_enter Try.func5, Try.ntmps5
    go_wp2_with fail
    refine HF.out.mono ?_
    rintro e w1 ⟨rfl, hb1⟩
    have HB1 := hid hb1
    clear hb1
    go_wp2_with fail
    refine (HS1.out _ HB1.out).mono ?_
    rintro e w2 ⟨a2, c2, rfl, hb2, r2⟩
    have HB2 := hid (HB1.out.trans (hb2.mono HB1.out.size))
    clear hb2
    go_wp2_with fail
    refine (HA1.out _ _ r2.out).mono ?_
    rintro e w3 ⟨a3, c3, rfl, hb3, r3⟩
    have HB3 := hid (HB2.out.trans (hb3.mono HB2.out.size))
    have R2 := hid (r2.out.later hb3)
    clear hb3 r2
    go_wp2_with fail
    refine (HWx.out _ _ _ (R2.out.later ((Below.refl _ w3).alloc (Nat.le_refl _) _)) (HLit.out w3)).mono ?_
    rintro e w4 ⟨a4, c4, rfl, hb4, r4⟩
    have hb34 : Below w3.heap.size w3 w4 := Below.trans (by go_grown) (hb4.mono (by simp))
    have HB4 := hid (HB3.out.trans (hb34.mono HB3.out.size))
    have R3 := hid (r3.out.later hb34)
    clear hb4 hb34 R2 r3
    go_wp2_with fail
    refine (HG.out _ _ r4.out).mono ?_
    rintro e w5 ⟨rfl, hb5⟩
    have HB5 := hid (HB4.out.trans (hb5.mono HB4.out.size))
    have R4 := hid (r4.out.later hb5)
    obtain ⟨p5, hp5, aa, cc, e9, _, _, _, hcell⟩ := R3.out.later hb5
    cases e9
    obtain ⟨b5, off5, rfl, hpb5, hc5⟩ := hcell.resolve_left (by simp)
    have c0 : w5.cell? ⟨b5, off5, none⟩ = some (.string u) := hc5 0 (by simp) 0 _ rfl
    clear hb5 r4 hcell hc5 R3
    go_wp2_with fail
    refine (HWl.out _ (HB5.out.alloc HB5.out.size _) _ (HLit.out w5)).mono ?_
    rintro e w6 ⟨a6, c6, rfl, hb6, r6⟩
    have hb56 : Below w5.heap.size w5 w6 := Below.trans (by go_grown) (hb6.mono (by simp))
    have HB6 := hid (HB5.out.trans (hb56.mono HB5.out.size))
    have R46 := hid (R4.out.later hb56)
    clear hb6 hb56 R4
    go_wp2_with fail
    refine (same_list _ _ m4 _ R46.out r6.out (by have := L4.out; have := Q4.out; omega)).mono ?_
    rintro e w7 ⟨rfl, hb7⟩
    have HB7 := hid (HB6.out.trans (hb7.mono HB6.out.size))
    clear hb7 R46 r6
    go_wp2_with fail
    refine (HK.out _).mono ?_
    rintro e w16 ⟨rfl, hb16⟩
    have HB16 := hid (HB7.out.trans (hb16.mono HB7.out.size))
    clear hb16
    go_wp2_with fail
    go_ret
    exact ⟨rfl, HB16.out⟩
end C04
end Go.Proofs.Ytpamnknfccmgcaa
