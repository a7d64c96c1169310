/- Walks of layer 26 (flight): each, of one batch; no condition. -/
import Derived.Test.YtdamnbldimompaaK26
namespace Go.Proofs.Ytdamnbldimompaa
open Go.RowKit Go.Peri
open Gen (flat_set set_mid get_mid map_take_snoc owns_at owns_num owns_le owns_below owns_form)
namespace C26
open Sq (rest ixQ atQ total bk benc)
def EachQ (W : World) (r : Bool) (y : Sq) (S : List Nat) (R : World → Prop) (v : Value) (w' : World) : Prop := Only S W w' ∧ R w' ∧ (r = true → ∃ a cap, v = .slice a 1 cap ∧ FR w' [y] a 1 cap w') ∧ (r = false → v = .slice none 0 0)
theorem each_fin {W w4 w5 : World} {S : List Nat} {R : World → Prop} {base : Nat} {k x : Sq} {t d : Int} {a5 : Option Addr} {cap5 : Nat} (hO : Only S W w4) (hR : R w4) (hRM : ∀ w w', R w → Below w.heap.size w w' → R w') (hk : OwnK base w4 k) (hown : w5.ownsRow w4.heap.size 62 5 (.slice a5 1 cap5) (0 + 1) ([] ++ Sq.enc { k with tries := t, due := d })) (hb : Below w4.heap.size w4 w5) (hkc : k.core = x.core) : EachQ W true { x.core with tries := t, due := d } S R (.slice a5 1 cap5) w5 := by
  refine ⟨hO.trans (Only.of_below hb), hRM _ _ hR hb, fun _ => ?_, fun h => absurd h (by decide)⟩
  have hk2 : OwnK base w4 { k with tries := t, due := d } := hk
  obtain ⟨a6, c6, e6, h6⟩ := one_fin (W := w4) (y := { x.core with tries := t, due := d }) (Below.refl _ _) hk2 (by simpa using hown) hb (Nat.le_refl _) (by rw [← hkc]; rfl)
  cases e6
  exact ⟨a5, cap5, rfl, h6.self⟩
set_option maxRecDepth 100000 in
set_option maxHeartbeats 4000000 in
theorem each_one (x : Sq) (t d : Int) (r : Bool) (B : Nat) (S : List Nat) (R : World → Prop) (a : Option Addr) (cap : Nat) (W : World) (h : RowsOf (· < W.heap.size) Sq.enc 5 W (.slice a 1 cap) [x]) (ha : x.At (· < W.heap.size) W) (hps : x.sp.length ≤ 1000000) (hS : ∀ b, b ∈ S → b < W.heap.size) (hR : ∀ w w', R w → Below w.heap.size w w' → R w')
    (HL : ∀ (k : Sq) (w : World), Below W.heap.size W w → k.core = x.core → k.At (fun b => W.heap.size ≤ b ∧ b < w.heap.size) w → Calls Try.prog 46 #[.agg #[.int .i64 k.node, .int .i64 k.seq, .slice k.pa k.sp.length k.pcap, .int .i64 k.tries, .int .i64 k.due], .pointer (some ⟨B, 0, none⟩), .pointer (some ⟨B + 2, 0, none⟩), .pointer (some ⟨B + 4, 0, none⟩), .pointer (some ⟨B + 3, 0, none⟩), .pointer (some ⟨B + 1, 0, none⟩)] w fun e w' => e = .returned (.tuple #[.agg #[.int .i64 k.node, .int .i64 k.seq, .slice k.pa k.sp.length k.pcap, .int .i64 t, .int .i64 d], .bool r]) ∧ Only S w w' ∧ Hid (R w')) :
    Calls Try.prog 45 #[.slice a 1 cap, .func (.func 46) #[] #[.pointer (some ⟨B, 0, none⟩), .pointer (some ⟨B + 2, 0, none⟩), .pointer (some ⟨B + 4, 0, none⟩), .pointer (some ⟨B + 3, 0, none⟩), .pointer (some ⟨B + 1, 0, none⟩)]] W (Ret (EachQ W r { x.core with tries := t, due := d } S R)) := by
  have HC := hid (copied_any (p := (· < W.heap.size)) (.slice a 1 cap) [x] W h (fun _ h => h) (by simp) (fun y hy => by rw [List.mem_singleton.1 hy]; exact ha) (fun y hy => by rw [List.mem_singleton.1 hy]; exact hps))
  have HLL := hid HL
  have HRM := hid hR
  have HSS := hid hS
  clear h ha HL hR hS
  go_enter Try.func45, Try.ntmps45
  go_wp2_with fail
  refine HC.out.mono ?_
  rintro e w1 ⟨v1, rfl, l1, hc1, hb1, hown, hcop⟩
  obtain ⟨k, rfl⟩ : ∃ k, l1 = [k] := by
    have : l1.length = 1 := by
      have := congrArg List.length hc1
      simpa using this
    exact List.length_eq_one_iff.1 this
  have hkc : k.core = x.core := by simpa using hc1
  obtain ⟨g, cap1, rfl, hg1, hg2⟩ := owns_at hown (by simp)
  have hown' : w1.ownsRow W.heap.size 62 5 (.slice (some ⟨g, 0, none⟩) 1 cap1) 1 k.enc := by simpa using hown
  obtain ⟨c0, c1, c2, c3, c4⟩ := Sq.cells (y := k) (w := w1) (b := g) (o := 0) (fun j u hj => by
    have hj2 : j < 5 := (List.getElem?_eq_some_iff.1 hj).1
    rw [Nat.zero_add, hown'.cellAt j (by omega)]
    exact hj)
  have HB1 := hid hb1
  have HKC := hid hkc
  have HOK := hid (hcop.own k (by simp))
  clear hc1 hb1 hown hown' hcop HC hkc
  go_wp2_with fail
  go_loopw [5, 13] (fun s5 s13 wr => ∃ n : Nat, n ≤ 1 ∧ s13 = .int .i64 n ∧ Hid (n = 0 → s5 = .slice none 0 0 ∧ wr = w1) ∧ Hid (n = 1 → EachQ W r { x.core with tries := t, due := d } S R s5 wr)) (fun _ i _ => 1 - (intOf i).toNat)
  case atStart => exact ⟨0, by omega, rfl, hid (fun _ => ⟨rfl, rfl⟩), hid (fun h => by omega)⟩
  case round =>
    obtain ⟨n, hn, rfl, H0, H1⟩ := hrel
    obtain rfl | rfl : n = 0 ∨ n = 1 := by omega
    · obtain ⟨rfl, rfl⟩ := H0.out rfl
      clear H0 H1
      go_upto_region 5 with fail
      refine wp_genF ?_
      intro w2 hw2
      have hb2 : Below wr.heap.size wr w2 := by rw [hw2]; go_grown
      have hk2 : Blk w2 wr.heap.size #[.int .i64 k.node, .int .i64 k.seq, .slice k.pa k.sp.length k.pcap, .int .i64 k.tries, .int .i64 k.due] 62 := by rw [hw2]; exact Blk.new _ _ _
      clear hw2
      have HB2 := hid (HB1.out.trans (hb2.mono HB1.out.size))
      have X := hid (HLL.out k w2 HB2.out HKC.out ((RowsOf.of_owns Sp.enc_length (owns_below HOK.out hb2))))
      have HOK2 := hid (owns_below HOK.out hb2)
      clear hb2 HLL
      obtain ⟨y0, y1, y2, y3, y4, -⟩ := blk5' hk2
      have hl2 := hk2.lt
      clear hk2 c0 c1 c2 c3 c4
      go_wp2_with fail
      refine X.out.mono ?_
      rintro e w3 ⟨rfl, ho3, hr3⟩
      have HO3 := hid ((Only.of_below HB2.out).trans ho3)
      have HR3 := hid hr3.out
      have HOK3 := hid (owns_keep HOK2.out ho3 (fun b hb hm => by have h1 := (owns_bd HOK2.out b hb).1; have h2 := HSS.out b hm; omega))
      clear ho3 hr3 X HOK2 y0 y1 y2 y3 y4
      go_upto_region 6 with fail
      refine wp_genF ?_
      intro w4 hw4
      have hb4 : Below w3.heap.size w3 w4 := by rw [hw4]; go_grown
      have hk4 : Blk w4 w3.heap.size #[.int .i64 k.node, .int .i64 k.seq, .slice k.pa k.sp.length k.pcap, .int .i64 t, .int .i64 d] 62 := by rw [hw4]; exact Blk.new _ _ _
      clear hw4
      have HO4 := hid (HO3.out.trans (Only.of_below hb4))
      have HR4 := hid (HRM.out _ _ HR3.out hb4)
      have HOK4 := hid (owns_below HOK3.out hb4)
      obtain ⟨y0, y1, y2, y3, y4, -⟩ := blk5' hk4
      have hl4 := hk4.lt
      have hsz4 : W.heap.size ≤ w4.heap.size := HO4.out.size
      clear hb4 hk4 HO3 HR3 HOK3
      have h63 : 0 + 1 ≤ maxLen := by decide
      have hby : (0 + 1) * 56 ≤ 140737488355328 := by decide
      cases r
      · have HF : Hid (1 = 1 → EachQ W false { x.core with tries := t, due := d } S R (.slice none 0 0) w4) := hid (fun _ => ⟨HO4.out, HR4.out, (by intro h; exact absurd h (by decide)), fun _ => rfl⟩)
        go_wp2_with fail
        go_roundw
        case rel => exact ⟨1, by omega, by go_num, hid (fun h => by omega), HF⟩
        case measure => simp [intOf]
      · go_wp2_with (at_builtin; refine wpList_push (w0 := w4) (T := 62) (news := Sq.enc { k with tries := t, due := d }) elemQ rfl _ _ rfl w4.heap.size (.slice none 0 0) 0 [] rfl (World.ownsRow_nil _ _ _ _) rfl rfl rfl (by simp [Sq.enc, Value.oneCell']) h63 hby (Nat.le_refl _) ?_; intro v5 w5 hown5 hb5; obtain ⟨a5, cap5, rfl⟩ := owns_form hown5; have HF := hid (fun (_ : 1 = 1) => each_fin (x := x) HO4.out HR4.out HRM.out HOK4.out hown5 hb5 HKC.out); clear hb5 hown5)
        go_roundw
        case rel => exact ⟨1, by omega, by go_num, hid (fun h => by omega), HF⟩
        case measure => simp [intOf]
    · have HE := hid (H1.out rfl)
      clear H0 H1
      go_wp2_with fail
      go_ret
      exact ⟨_, rfl, HE.out⟩
end C26
end Go.Proofs.Ytdamnbldimompaa
