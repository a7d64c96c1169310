/- Walks of layer 34 (prog): the document's check of an operation, of operations; no condition. -/
import Derived.Test.YtahakgmfkplidaaG35
namespace Go.Proofs.Ytahakgmfkplidaa
open Go.RowKit Go.Peri
namespace C35
set_option maxRecDepth 100000 in
set_option maxHeartbeats 4000000 in
theorem rcheck_out (k : Int) (a b : ByteArray) (n : Int) (W : World) (hk : k < 1 ∨ 7 < k) :
    Calls Try.prog 42 #[.agg #[.int .i64 k, .string a, .string b, .int .i64 n]] W fun e w' => e = .returned (.int .i64 2) ∧ Below W.heap.size W w' := by
  by_cases h1 : k < 1
  · clear hk
    go_enter Try.func42, Try.ntmps42
    go_wp2_with fail
    go_ret
    exact ⟨rfl, by go_grown⟩
  · have h7 : 7 < k := by omega
    clear hk
    go_enter Try.func42, Try.ntmps42
    go_wp2_with fail
    go_ret
    exact ⟨rfl, by go_grown⟩
theorem rcheck_any (o : Opr) (r : Int) (W : World) (ha : o.a.size ≤ 1000000000000000) (hb : o.b.size ≤ 1000000000000000) (hr : chk o = r) :
    Calls Try.prog 42 #[.agg #[.int .i64 o.kind, .string o.a, .string o.b, .int .i64 o.n]] W fun e w' => e = .returned (.int .i64 r) ∧ Below W.heap.size W w' := by
  rw [← opE_chk] at hr
  obtain ⟨k, a, b, n⟩ := o
  by_cases hk : 1 ≤ k ∧ k ≤ 7
  · obtain rfl | rfl | rfl | rfl | rfl | rfl | rfl : k = 1 ∨ k = 2 ∨ k = 3 ∨ k = 4 ∨ k = 5 ∨ k = 6 ∨ k = 7 := by omega
    · exact rcheck_1 a b n r W ha hb hr
    · exact rcheck_2 a b n r W ha hb hr
    · exact rcheck_3 a b n r W ha hb hr
    · exact rcheck_4 a b n r W ha hb hr
    · exact rcheck_5 a b n r W ha hb hr
    · exact rcheck_6 a b n r W ha hb hr
    · exact rcheck_7 a b n r W ha hb hr
  · have h1 : (decide (k < 1) || decide (7 < k)) = true := by
      rw [Bool.or_eq_true, decide_eq_true_eq, decide_eq_true_eq]
      omega
    have e : r = 2 := by rw [← hr]; unfold opE; simp only [h1, if_true]
    rw [e]
    exact rcheck_out k a b n W (by omega)
set_option maxRecDepth 100000 in
set_option maxHeartbeats 4000000 in
theorem rcheckAll_any {p : Nat → Prop} (v : Value) (l : List Opr) (r : Int) (W : World) (h : RowsOf p Opr.enc 4 W v l) (hp : ∀ b, p b → b < W.heap.size) (hl : l.length ≤ 10000000000000) (hs : ∀ x ∈ l, Small x) (hr : allE chk l = r) :
    Calls Try.prog 32 #[v] W fun e w' => e = .returned (.int .i64 r) ∧ Below W.heap.size W w' := by
  obtain ⟨a, cap, rfl, hlc, hcm, _, hcell⟩ := h
  have HC := hid hcell
  have HP := hid hp
  have HS := hid hs
  have HR := hid hr
  clear hcell hp hs hr
  by_cases h12 : 12 < l.length
  · have HF : Hid (r = 8) := hid (by rw [← HR.out]; unfold allE; rw [if_pos h12])
    go_enter Try.func32, Try.ntmps32
    go_wp2_with fail
    go_ret
    exact ⟨by rw [HF.out]; rfl, Below.refl _ _⟩
  have HF : Hid (firstE chk l = r) := hid (by have := HR.out; unfold allE at this; rwa [if_neg h12] at this)
  clear HR
  go_enter Try.func32, Try.ntmps32
  go_wp2_with fail
  go_loopw [3] (fun i wr => ∃ k : Nat, k ≤ l.length ∧ i = .int .i64 k ∧ Hid (Below W.heap.size W wr) ∧ Hid (firstE chk (l.drop k) = r)) (fun i _ => l.length - (intOf i).toNat)
  case atStart => exact ⟨0, Nat.zero_le _, rfl, hid (Below.refl _ _), HF⟩
  case round =>
    obtain ⟨k, hk, rfl, HB, HN⟩ := hrel
    by_cases hlt : k < l.length
    · obtain ⟨b, off, rfl, hpb, hc⟩ := HC.out.resolve_left (by intro e; rw [e] at hlt; simp at hlt)
      have hbl := HP.out b hpb
      obtain ⟨c0, c1, c2, c3⟩ := Opr.cells (fun j u hu => (HB.out.cell (p := ⟨b, off + k * 4 + j, none⟩) hbl).trans (hc k hlt j u hu))
      have HD := hid (firstE_drop (f := chk) hlt)
      rw [HN.out] at HD
      have hsm := HS.out l[k] (List.getElem_mem hlt)
      clear hc
      generalize l[k] = y at c0 c1 c2 c3 HD hsm
      obtain ⟨q, hq⟩ : ∃ q, chk y = q := ⟨_, rfl⟩
      have X := hid (fun w => rcheck_any y q w hsm.1 hsm.2 hq)
      rw [hq] at HD
      clear hq
      go_wp2_with fail
      refine (X.out _).mono ?_
      rintro e w1 ⟨rfl, hb1⟩
      have HB2 := hid (HB.out.trans (hb1.mono HB.out.size))
      clear hb1 c0 c1 c2 c3 X
      obtain ⟨z, hz⟩ : ∃ z, (q != 0) = z := ⟨_, rfl⟩
      rw [hz] at HD
      cases z
      · have HN2 : Hid (firstE chk (l.drop (k + 1)) = r) := hid (by have := HD.out; rw [if_neg (by decide)] at this; exact this.symm)
        go_wp2_with fail
        go_roundw
        case rel => exact ⟨k + 1, by omega, by go_num, HB2, HN2⟩
        case measure => simp [intOf]; omega
      · have HN2 : Hid (r = q) := hid (by have := HD.out; rwa [if_pos rfl] at this)
        go_wp2_with fail
        go_ret
        exact ⟨by rw [HN2.out]; rfl, HB2.out⟩
    · obtain rfl : k = l.length := by omega
      have hz : r = 0 := by rw [← HN.out, List.drop_length]; rfl
      have HZ := hid hz
      clear hz
      go_wp2_with fail
      go_ret
      exact ⟨by rw [HZ.out]; rfl, HB.out⟩
end C35
end Go.Proofs.Ytahakgmfkplidaa
