/- Walks of layer 34 (prog): whether operations may be; no condition. -/
import Derived.Test.YtahakgmfkplidaaE35
namespace Go.Proofs.Ytahakgmfkplidaa
open Go.RowKit Go.Peri
namespace C35
/-- The first thing that is wrong. -/
def firstE (f : Opr → Int) : List Opr → Int
  | [] => 0
  | x :: l => if (f x != 0) = true then f x else firstE f l
theorem firstE_drop {f : Opr → Int} {l : List Opr} {k : Nat} (hk : k < l.length) : firstE f (l.drop k) = if (f l[k] != 0) = true then f l[k] else firstE f (l.drop (k + 1)) := by
  rw [List.drop_eq_getElem_cons hk]
  rfl
def allE (f : Opr → Int) (l : List Opr) : Int := if 12 < l.length then 8 else firstE f l
/-- Texts that are not too long. -/
def Small (o : Opr) : Prop := o.a.size ≤ 1000000000000000 ∧ o.b.size ≤ 1000000000000000
set_option maxRecDepth 100000 in
set_option maxHeartbeats 4000000 in
theorem checkAll_any {p : Nat → Prop} (v : Value) (l : List Opr) (r : Int) (W : World) (h : RowsOf p Opr.enc 4 W v l) (hp : ∀ b, p b → b < W.heap.size) (hl : l.length ≤ 10000000000000) (hs : ∀ x ∈ l, Small x) (hr : allE chk l = r) :
    Calls Try.prog 40 #[v] W fun e w' => e = .returned (.int .i64 r) ∧ Below W.heap.size W w' := by
  obtain ⟨a, cap, rfl, hlc, hcm, _, hcell⟩ := h
  have HC := hid hcell
  have HP := hid hp
  have HS := hid hs
  have HR := hid hr
  clear hcell hp hs hr
  by_cases h12 : 12 < l.length
  · have HF : Hid (r = 8) := hid (by rw [← HR.out]; unfold allE; rw [if_pos h12])
    go_enter Try.func40, Try.ntmps40
    go_wp2_with fail
    go_ret
    exact ⟨by rw [HF.out]; rfl, Below.refl _ _⟩
  have HF : Hid (firstE chk l = r) := hid (by have := HR.out; unfold allE at this; rwa [if_neg h12] at this)
  clear HR
  go_enter Try.func40, Try.ntmps40
  go_wp2_with fail
  go_loopw [11] (fun i wr => ∃ k : Nat, k ≤ l.length ∧ i = .int .i64 k ∧ Hid (Below W.heap.size W wr) ∧ Hid (firstE chk (l.drop k) = r)) (fun i _ => l.length - (intOf i).toNat)
  case atStart => exact ⟨0, Nat.zero_le _, rfl, hid (Below.refl _ _), HF⟩
  case round =>
    obtain ⟨k, hk, rfl, HB, HN⟩ := hrel
    by_cases hlt : k < l.length
    · obtain ⟨b, off, rfl, hpb, hc⟩ := HC.out.resolve_left (by intro e; rw [e] at hlt; simp at hlt)
      have hbl := HP.out b hpb
      obtain ⟨c0, c1, c2, c3⟩ := Opr.cells (fun j u hu => (HB.out.cell (p := ⟨b, off + k * 4 + j, none⟩) hbl).trans (hc k hlt j u hu))
      have HD := hid (firstE_drop (f := chk) hlt)
      rw [HN.out] at HD
      have hsm := HS.out l[k] (List.getElem_mem hlt)
      clear hc
      generalize l[k] = y at c0 c1 c2 c3 HD hsm
      obtain ⟨q, hq⟩ : ∃ q, chk y = q := ⟨_, rfl⟩
      have X := hid (fun w => check_any y q w hsm.1 hsm.2 hq)
      rw [hq] at HD
      clear hq
      have HB1 : Hid (Below W.heap.size W (wr.alloc (.cells #[.int .i64 y.kind, .string y.a, .string y.b, .int .i64 y.n] 45))) := hid (HB.out.alloc HB.out.size _)
      go_wp2_with fail
      refine (X.out _).mono ?_
      rintro e w1 ⟨rfl, hb1⟩
      have HB2 := hid (HB1.out.trans (hb1.mono HB1.out.size))
      clear hb1 c0 c1 c2 c3 X
      obtain ⟨z, hz⟩ : ∃ z, (q != 0) = z := ⟨_, rfl⟩
      rw [hz] at HD
      cases z
      · have HN2 : Hid (firstE chk (l.drop (k + 1)) = r) := hid (by have := HD.out; rw [if_neg (by decide)] at this; exact this.symm)
        go_wp2_with fail
        go_roundw
        case rel => exact ⟨k + 1, by omega, by go_num, HB2, HN2⟩
        case measure => simp [intOf]; omega
      · have HN2 : Hid (r = q) := hid (by have := HD.out; rwa [if_pos rfl] at this)
        go_wp2_with fail
        go_ret
        exact ⟨by rw [HN2.out]; rfl, HB2.out⟩
    · obtain rfl : k = l.length := by omega
      have hz : r = 0 := by rw [← HN.out, List.drop_length]; rfl
      have HZ := hid hz
      clear hz
      go_wp2_with fail
      go_ret
      exact ⟨by rw [HZ.out]; rfl, HB.out⟩
end C35
end Go.Proofs.Ytahakgmfkplidaa
