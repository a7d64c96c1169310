/- Walks of layer 35 (graph): whether a handler, handlers may be; no condition. -/
import Derived.Test.YtahakgmfkplidaaJ35
namespace Go.Proofs.Ytahakgmfkplidaa
open Go.RowKit Go.Peri
namespace C35
open C11 (pathOk)
/-- What is wrong with a handler at its place. -/
def hE (l : List Hn) (i : Nat) (h : Hn) : Int := if pathOk h.path = false then 12 else if Gx.dup Hn.path l i h.path = true then 10 else allE chk h.ops
structure HOk (p : Nat → Prop) (w : World) (h : Hn) : Prop where
  path : h.path.size ≤ 1000000000000000
  rows : h.At p w
  len : h.ops.length ≤ 10000000000000
  ops : ∀ o ∈ h.ops, Small o
theorem HOk.below {p : Nat → Prop} {B : Nat} {w w' : World} {h : Hn} (k : HOk p w h) (ho : Below B w w') (hp : ∀ b, p b → b < B) : HOk p w' h := ⟨k.path, k.rows.below ho hp, k.len, k.ops⟩
theorem blk2o {w : World} {g t : Nat} {a0 a1 : Value} (h : Blk w g #[a0, a1] t) : w.cell? ⟨g, 0, none⟩ = some a0 ∧ w.cell? ⟨g, 1, none⟩ = some a1 := ⟨h.cell 0, h.cell 1⟩
set_option maxRecDepth 100000 in
set_option maxHeartbeats 4000000 in
theorem handler_any {p : Nat → Prop} (v : Value) (l : List Hn) (i : Nat) (r : Int) (W : World) (h : RowsOf p Hn.enc 2 W v l) (hp : ∀ b, p b → b < W.heap.size) (hl : l.length ≤ 10000000000000) (hi : i < l.length) (hk : HOk p W l[i]) (hr : hE l i l[i] = r) :
    Calls Try.prog 30 #[v, .int .i64 i] W fun e w' => e = .returned (.int .i64 r) ∧ Below W.heap.size W w' := by
  obtain ⟨q, hqd⟩ : ∃ q, q = Gx.ix Hn.path l l[i].path := ⟨_, rfl⟩
  have hat : Gx.atI Hn.path l l[i].path = (q : Int) := by rw [hqd]; exact Gx.atI_own hi rfl
  have hdup : Gx.dup Hn.path l i l[i].path = decide (q < i) := by rw [hqd]; rfl
  have XF : Hid (∀ w, Below W.heap.size W w → Calls Try.prog 24 #[v, .string l[i].path, .func (.func 25) #[] #[]] w fun e w' => e = .returned (.int .i64 q) ∧ Below w.heap.size w w') :=
    hid (fun w hb => hfind_any v l _ _ w (h.below hb hp) (fun b hb' => Nat.lt_of_lt_of_le (hp b hb') hb.size) hl hat)
  have XA : Hid (∀ w, Below W.heap.size W w → Calls Try.prog 40 #[.slice l[i].pa l[i].ops.length l[i].pcap] w fun e w' => e = .returned (.int .i64 (allE chk l[i].ops)) ∧ Below w.heap.size w w') :=
    hid (fun w hb => checkAll_any _ _ _ w (RowsOf.below hk.rows hb hp) (fun b hb' => Nat.lt_of_lt_of_le (hp b hb') hb.size) hk.len hk.ops rfl)
  have XM := hid (fun w => C11.mcheck_any ⟨#[65]⟩ ⟨#[97]⟩ l[i].path (if pathOk l[i].path = true then 0 else 12) w (by decide) (by decide) hk.path (by unfold C11.told; rw [if_pos (by decide), if_pos (by decide)]))
  have HR := hid hr
  unfold hE at HR
  rw [hdup] at HR
  clear hr hat hdup hqd hk
  obtain ⟨a, cap, rfl, hlc, hcm, _, hcell⟩ := h
  obtain ⟨b, off, rfl, hpb, hc⟩ := hcell.resolve_left (by intro e; rw [e] at hi; simp at hi)
  have hbl := hp b hpb
  obtain ⟨c0, c1⟩ := Hn.cells (fun j u hu => hc i hi j u hu)
  clear hc hcell hp hpb
  generalize l[i] = y at c0 c1 XF XA XM HR
  obtain ⟨path, pa, pcap, ops⟩ := y
  dsimp only at c0 c1 XF XA XM HR
  obtain ⟨po, hpo⟩ : ∃ q, pathOk path = q := ⟨_, rfl⟩
  rw [hpo] at XM HR
  obtain ⟨ae, hae⟩ : ∃ q, allE chk ops = q := ⟨_, rfl⟩
  rw [hae] at XA HR
  obtain ⟨nops, hno⟩ : ∃ n, n = ops.length := ⟨_, rfl⟩
  rw [← hno] at c1 XA
  clear hpo hae hno
  go_enter Try.func30, Try.ntmps30
  go_upto_region 2 with fail
  refine wp_genG ?_
  intro w1 hw1
  have hb1 : Below W.heap.size W w1 := by rw [hw1]; go_grown
  have hk1 : Blk w1 W.heap.size #[.string path, .slice pa nops pcap] 42 := by rw [hw1]; exact Blk.new _ _ _
  clear hw1 c0 c1
  have HB1 := hid hb1
  have HK1 := hid hk1
  obtain ⟨x0, x1⟩ := blk2o hk1
  clear hb1 hk1
  cases po
  · rw [if_neg (by decide)] at XM
    go_wp2_with fail
    refine (XM.out _).mono ?_
    rintro e w2 ⟨rfl, hb2⟩
    have HB2 := hid (HB1.out.trans (hb2.mono HB1.out.size))
    clear hb2 x0 x1
    go_wp2_with fail
    go_ret
    exact ⟨by rw [← HR.out]; rfl, HB2.out⟩
  · rw [if_pos rfl] at XM
    go_wp2_with fail
    refine (XM.out _).mono ?_
    rintro e w2 ⟨rfl, hb2⟩
    have HB2 := hid (HB1.out.trans (hb2.mono HB1.out.size))
    have HK2 := hid (HK1.out.later hb2)
    clear hb2 x0 x1
    obtain ⟨x0, x1⟩ := blk2o HK2.out
    go_wp2_with fail
    refine (XF.out _ HB2.out).mono ?_
    rintro e w3 ⟨rfl, hb3⟩
    have HB3 := hid (HB2.out.trans (hb3.mono HB2.out.size))
    have HK3 := hid (HK2.out.later hb3)
    clear hb3 x0 x1
    obtain ⟨x0, x1⟩ := blk2o HK3.out
    by_cases hqi : q < i
    · rw [decide_eq_true hqi] at HR
      go_wp2_with fail
      go_ret
      exact ⟨by rw [← HR.out]; rfl, HB3.out⟩
    · rw [decide_eq_false hqi] at HR
      go_wp2_with fail
      refine (XA.out _ HB3.out).mono ?_
      rintro e w4 ⟨rfl, hb4⟩
      have HB4 := hid (HB3.out.trans (hb4.mono HB3.out.size))
      clear hb4 x0 x1
      go_wp2_with fail
      go_ret
      exact ⟨by rw [← HR.out]; rfl, HB4.out⟩
end C35
end Go.Proofs.Ytahakgmfkplidaa
