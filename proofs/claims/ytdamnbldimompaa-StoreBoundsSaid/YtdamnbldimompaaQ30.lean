/- The law StoreSays walked (30); no condition. -/
import Derived.Test.YtdamnbldimompaaP30b
namespace Go.Peri
namespace Kp
theorem add_len (kl : List Kp) (r : Int) (s : Sp) : (add kl r s).length ≤ kl.length + 1 := by
  unfold add
  split
  · rw [List.length_set]; omega
  · rw [List.length_drop, List.length_append, List.length_singleton]; omega
theorem put_len (k : Kp) (s : Sp) : (put k s).sp.length ≤ k.sp.length + 1 := by
  unfold put
  split
  · show k.sp.length ≤ _; omega
  · split
    · show k.sp.length ≤ _; omega
    · show (k.sp ++ [s]).length ≤ _
      rw [List.length_append]; exact Nat.le_refl _
theorem add_sp {kl : List Kp} {N : Nat} (h : ∀ k ∈ kl, k.sp.length ≤ N) (r : Int) (s : Sp) : ∀ k ∈ add kl r s, k.sp.length ≤ N + 1 := by
  intro k hk
  unfold add at hk
  split at hk
  · rename_i hx
    rcases List.mem_or_eq_of_mem_set hk with hk | rfl
    · have := h k hk; omega
    · have h1 := put_len kl[ix kl s.hi s.lo] s
      have h2 := h _ (List.getElem_mem hx)
      omega
  · rcases List.mem_append.1 (List.mem_of_mem_drop hk) with hk | hk
    · have := h k hk; omega
    · rw [List.mem_singleton.1 hk]
      show 1 ≤ N + 1
      omega
theorem get_sp {kl : List Kp} {N : Nat} (h : ∀ k ∈ kl, k.sp.length ≤ N) (hi lo : Nat) : (get kl hi lo).sp.length ≤ N := by
  unfold get
  split
  · rename_i hx
    exact h _ (List.getElem_mem hx)
  · exact Nat.zero_le _
end Kp
end Go.Peri
namespace Go.Proofs.Ytdamnbldimompaa
open Go.RowKit Go.Peri
open Gen (rows_of_blk flat_set set_mid get_mid map_take_snoc owns_at owns_num owns_le owns_below owns_form)
namespace C30
open Kp (ix ixS)
theorem AddR.later {W : World} {kl : List Kp} {a : Option Addr} {n cap : Nat} {w w' : World} (h : AddR W kl a n cap w) (hb : Below w.heap.size w w') : AddR W kl a n cap w' := by
  obtain ⟨l1, h1, h2, h3, h4, h5⟩ := h
  exact ⟨l1, h1, h2, h3.trans (hb.mono h3.size), (h4.below hb (fun _ h => h)).imp (fun b h => Nat.lt_of_lt_of_le h hb.size), fun x hx => ((h5 x hx).below hb (fun _ h => h)).imp (fun b h => Nat.lt_of_lt_of_le h hb.size)⟩
theorem At.later' {k : Kq} {w w' : World} (h : k.At (· < w.heap.size) w) (hb : Below w.heap.size w w') : k.At (· < w'.heap.size) w' := (h.below hb (fun _ h => h)).imp (fun b h => Nat.lt_of_lt_of_le h hb.size)
theorem sp_of_core {l1 : List Kq} {kl : List Kp} {N : Nat} (h : l1.map Kq.core = kl) (hk : ∀ k ∈ kl, k.sp.length ≤ N) : ∀ x ∈ l1, x.sp.length ≤ N := fun x hx => hk x.core (by rw [← h]; exact List.mem_map_of_mem hx)
/-- Two stores of the same traces are alike. -/
theorem same_add {W W2 : World} {kl : List Kp} {a a2 : Option Addr} {n cap n2 cap2 : Nat} {w : World} (h : AddR W kl a n cap w) (h2 : AddR W2 kl a2 n2 cap2 w) (hk : kl.length ≤ 1000000) (hs : ∀ k ∈ kl, k.sp.length ≤ 1000000) :
    Calls Try.prog 15 #[.slice a n cap, .slice a2 n2 cap2] w fun e w' => e = .returned (.bool true) ∧ Below w.heap.size w w' := by
  obtain ⟨l1, h1, hc, _, hr, ha⟩ := h
  obtain ⟨l2, h3, hc2, _, hr2, ha2⟩ := h2
  have e1 : l1.length = kl.length := by rw [← hc, List.length_map]
  have e2 : l2.length = kl.length := by rw [← hc2, List.length_map]
  exact same_any _ _ l1 l2 true w hr hr2 ha ha2 (by omega) (by omega) (fun x hx => Nat.le_trans (sp_of_core hc hs x hx) (by decide)) (fun x hx => Nat.le_trans (sp_of_core hc2 hs x hx) (by decide)) (decide_eq_true (hc.trans hc2.symm))
def Known : Prop := ∀ W : World, Calls Try.prog 8 #[] W fun e w' => e = .returned (.bool true) ∧ Below W.heap.size W w'
set_option maxRecDepth 100000 in
set_option maxHeartbeats 16000000 in
theorem says_walk (K : Known) (v : Value) (l : List Kq) (room : Int) (s : Sp) (hi lo : Nat) (W : World) (h : RowsOf (· < W.heap.size) Kq.enc 5 W v l) (hw : ∀ x ∈ l, x.Wf W W.heap.size) (hll : l.length * 48 ≤ 140737488351232) :
    Calls Try.prog 3 #[v, .int .i64 room, .agg #[.int .u64 s.hi, .int .u64 s.lo, .int .u64 s.id, .int .u64 s.up, .string s.name, .int .i64 s.status, .int .i64 s.seq, .int .i64 s.kids, .bool s.shadow, .int .i64 s.start, .int .i64 s.stop], .agg #[.int .u64 hi, .int .u64 lo]] W fun e w' => e = .returned (.bool true) ∧ Below W.heap.size W w' := by
  have HK := hid K
  obtain ⟨q1, hq1⟩ : ∃ q, Kq.few l = q := ⟨_, rfl⟩
  have HROW := hid (fun w' (hb : Below W.heap.size W w') => (h.below hb (fun _ h => h)).imp (fun b h => Nat.lt_of_lt_of_le h hb.size))
  have HAT := hid (fun w' (hb : Below W.heap.size W w') (x : Kq) (hx : x ∈ l) => (RowsOf.imp ((hw x hx).below hb).rows (fun b h => Nat.lt_of_lt_of_le h hb.size) : x.At (· < w'.heap.size) w'))
  have HF := hid (fun w' (hb : Below W.heap.size W w') => few_any v l q1 w' (HROW.out w' hb) (by omega) hq1)
  have HB1 : Hid (q1 = true → l.length ≤ 60 ∧ ∀ x ∈ l, x.sp.length ≤ 100) := hid (fun e => by
    subst e
    exact ⟨Kq.few_len hq1, Kq.few_sp hq1⟩)
  obtain ⟨a, cap, rfl⟩ : ∃ a cap, v = .slice a l.length cap := by
    obtain ⟨a, cap, e, _⟩ := h
    exact ⟨a, cap, e⟩
  have X1 := hid (fun w' (hb : Below W.heap.size W w') (h60 : l.length ≤ 60) (hs : ∀ x ∈ l, x.sp.length ≤ 100) => add_any (.slice a l.length cap) l room s w' (HROW.out w' hb) (by omega) (HAT.out w' hb) (fun x hx => Nat.le_trans (hs x hx) (by decide)))
  have X2 := hid (fun w' (hb : Below W.heap.size W w') (h60 : l.length ≤ 60) (hs : ∀ x ∈ l, x.sp.length ≤ 100) => radd_any (.slice a l.length cap) l room s w' (HROW.out w' hb) (by omega) (HAT.out w' hb) (fun x hx => Nat.le_trans (hs x hx) (by decide)))
  have X3 := hid (fun w' (hb : Below W.heap.size W w') (h60 : l.length ≤ 60) (hs : ∀ x ∈ l, x.sp.length ≤ 100) => get_any (.slice a l.length cap) l hi lo w' (HROW.out w' hb) (by omega) (HAT.out w' hb) (fun x hx => Nat.le_trans (hs x hx) (by decide)))
  have X4 := hid (fun w' (hb : Below W.heap.size W w') (h60 : l.length ≤ 60) (hs : ∀ x ∈ l, x.sp.length ≤ 100) => rget_any (.slice a l.length cap) l hi lo w' (HROW.out w' hb) (by omega) (HAT.out w' hb) (fun x hx => Nat.le_trans (hs x hx) (by decide)))
  have X5 := hid (fun w' (hb : Below W.heap.size W w') (h60 : l.length ≤ 60) => traces_any (.slice a l.length cap) l w' (HROW.out w' hb) (by omega))
  have X6 := hid (fun w' (hb : Below W.heap.size W w') (h60 : l.length ≤ 60) => rtraces_any (.slice a l.length cap) l w' (HROW.out w' hb) (by omega))
  clear hq1 h hw hll
  go_enter Try.func3, Try.ntmps3
  go_upto_region 1 with fail
  refine wp_gen ?_
  intro w1 hw1
  have hb1 : Below W.heap.size W w1 := by rw [hw1]; go_grown
  have hk1 : Blk w1 W.heap.size #[.int .u64 s.hi, .int .u64 s.lo, .int .u64 s.id, .int .u64 s.up, .string s.name, .int .i64 s.status, .int .i64 s.seq, .int .i64 s.kids, .bool s.shadow, .int .i64 s.start, .int .i64 s.stop] 27 := by rw [hw1]; exact (Blk.new _ _ _).alloc _
  have hk2 : Blk w1 (W.heap.size + 1) #[.int .u64 hi, .int .u64 lo] 25 := by rw [hw1]; exact Blk.new' _ _ _ (by simp)
  clear hw1
  have HB := hid hb1
  have HKS := hid hk1
  have HKT := hid hk2
  clear hb1 hk1 hk2
  go_wp2_with fail
  refine (HF.out _ HB.out).mono ?_
  rintro e w2 ⟨rfl, rfl⟩
  cases q1
  · go_wp2_with fail
    refine (HK.out _).mono ?_
    rintro e wk ⟨rfl, hbk⟩
    have HBK := hid (HB.out.trans (hbk.mono HB.out.size))
    clear hbk
    go_wp2_with fail
    go_ret
    exact ⟨rfl, HBK.out⟩
  have H60 := hid (HB1.out (by first | rfl | trivial)).1
  have HSP := hid (HB1.out (by first | rfl | trivial)).2
  have HKL : Hid ((Kp.add (l.map Kq.core) room s).length ≤ 1000000 ∧ ∀ k ∈ Kp.add (l.map Kq.core) room s, k.sp.length ≤ 1000000) := hid ⟨by
    have := Kp.add_len (l.map Kq.core) room s
    rw [List.length_map] at this
    have := H60.out
    omega, fun k hk => by
    have := Kp.add_sp (kl := l.map Kq.core) (N := 100) (fun k hk => by
      obtain ⟨x, hx, rfl⟩ := List.mem_map.1 hk
      exact HSP.out x hx) room s k hk
    omega⟩
  have HGS : Hid ((Kp.get (l.map Kq.core) hi lo).sp.length ≤ 100) := hid (Kp.get_sp (fun k hk => by
      obtain ⟨x, hx, rfl⟩ := List.mem_map.1 hk
      exact HSP.out x hx) hi lo)
  clear HB1 HF
  obtain ⟨s0, s1, s2, s3, s4, s5, s6, s7, s8, s9, s10, -⟩ := blk11 HKS.out
  go_wp2_with fail
  refine (X1.out _ HB.out H60.out HSP.out).mono ?_
  rintro e w3 ⟨v3, rfl, a3, n3, c3, rfl, hr3⟩
  have hb3 : Below w1.heap.size w1 w3 := by obtain ⟨_, _, _, hb, _⟩ := hr3; exact hb
  have HR3 := hid hr3
  have HB3 := hid (HB.out.trans (hb3.mono HB.out.size))
  have HKS3 := hid (HKS.out.later hb3)
  have HKT3 := hid (HKT.out.later hb3)
  clear hb3 hr3 s0 s1 s2 s3 s4 s5 s6 s7 s8 s9 s10 HKS HKT HB
  obtain ⟨s0, s1, s2, s3, s4, s5, s6, s7, s8, s9, s10, -⟩ := blk11 HKS3.out
  go_wp2_with fail
  refine (X2.out _ HB3.out H60.out HSP.out).mono ?_
  rintro e w4 ⟨v4, rfl, a4, n4, c4, rfl, hr4⟩
  have hb4 : Below w3.heap.size w3 w4 := by obtain ⟨_, _, _, hb, _⟩ := hr4; exact hb
  have HR4 := hid hr4
  have HR3b := hid (HR3.out.later hb4)
  have HB4 := hid (HB3.out.trans (hb4.mono HB3.out.size))
  have HKT4 := hid (HKT3.out.later hb4)
  clear hb4 hr4 s0 s1 s2 s3 s4 s5 s6 s7 s8 s9 s10 HKS3 HKT3 HB3 HR3 X1 X2
  have t0 : w4.cell? ⟨W.heap.size + 1, 0, none⟩ = some (.int .u64 hi) := HKT4.out.cell 0
  have t1 : w4.cell? ⟨W.heap.size + 1, 1, none⟩ = some (.int .u64 lo) := HKT4.out.cell 1
  go_wp2_with fail
  refine (X3.out _ HB4.out H60.out HSP.out).mono ?_
  rintro e w5 ⟨v5, rfl, x, rfl, hcx, hb5, hax⟩
  unfold kv
  have HCX := hid hcx
  have HAX := hid hax
  have HR4c := hid (HR4.out.later hb5)
  have HR3c := hid (HR3b.out.later hb5)
  have HB5 := hid (HB4.out.trans (hb5.mono HB4.out.size))
  have HKT5 := hid (HKT4.out.later hb5)
  clear hb5 hcx hax t0 t1 HKT4 HB4 HR4 HR3b X3
  go_upto_region 6 with fail
  refine wp_gen ?_
  intro w6 hw6
  have hb6 : Below w5.heap.size w5 w6 := by rw [hw6]; go_grown
  have hkx : Blk w6 w5.heap.size #[.int .u64 x.hi, .int .u64 x.lo, .slice x.pa x.sp.length x.pcap, .bool x.spilled, .bool x.clash] 34 := by rw [hw6]; exact Blk.new _ _ _
  clear hw6
  have HKX := hid hkx
  have HAX6 := hid (At.later' HAX.out hb6)
  have HR4d := hid (HR4c.out.later hb6)
  have HR3d := hid (HR3c.out.later hb6)
  have HB6 := hid (HB5.out.trans (hb6.mono HB5.out.size))
  have HKT6 := hid (HKT5.out.later hb6)
  clear hb6 hkx HAX HR4c HR3c HB5 HKT5
  have t0 : w6.cell? ⟨W.heap.size + 1, 0, none⟩ = some (.int .u64 hi) := HKT6.out.cell 0
  have t1 : w6.cell? ⟨W.heap.size + 1, 1, none⟩ = some (.int .u64 lo) := HKT6.out.cell 1
  go_wp2_with fail
  refine (X4.out _ HB6.out H60.out HSP.out).mono ?_
  rintro e w7 ⟨v7, rfl, y, rfl, hcy, hb7, hay⟩
  unfold kv
  have HCY := hid hcy
  have HAY := hid hay
  have HAX7 := hid (At.later' HAX6.out hb7)
  have HKX7 := hid (HKX.out.later hb7)
  have HR4e := hid (HR4d.out.later hb7)
  have HR3e := hid (HR3d.out.later hb7)
  have HB7 := hid (HB6.out.trans (hb7.mono HB6.out.size))
  clear hb7 hcy hay t0 t1 HKT6 HB6 HR4d HR3d X4 HKX HAX6
  go_upto_region 7 with fail
  refine wp_gen ?_
  intro w8 hw8
  have hb8 : Below w7.heap.size w7 w8 := by rw [hw8]; go_grown
  have hky : Blk w8 w7.heap.size #[.int .u64 y.hi, .int .u64 y.lo, .slice y.pa y.sp.length y.pcap, .bool y.spilled, .bool y.clash] 34 := by rw [hw8]; exact Blk.new _ _ _
  clear hw8
  have HKY8 := hid hky
  have HAX8 := hid (At.later' HAX7.out hb8)
  have HAY8 := hid (At.later' HAY.out hb8)
  have HKX8 := hid (HKX7.out.later hb8)
  have HR4f := hid (HR4e.out.later hb8)
  have HR3f := hid (HR3e.out.later hb8)
  have HB8 := hid (HB7.out.trans (hb8.mono HB7.out.size))
  clear hb8 hky HAY HAX7 HKX7 HR4e HR3e HB7
  go_wp2_with fail
  refine (X5.out _ HB8.out H60.out).mono ?_
  rintro e w9 ⟨v9, rfl, ta, tc, rfl, hb9, hto⟩
  have HB9 := hid (HB8.out.trans (hb9.mono HB8.out.size))
  have HT9 := hid hto
  have HAX9 := hid (At.later' HAX8.out hb9)
  have HAY9 := hid (At.later' HAY8.out hb9)
  have HKX9 := hid (HKX8.out.later hb9)
  have HKY9 := hid (HKY8.out.later hb9)
  have HR4g := hid (HR4f.out.later hb9)
  have HR3g := hid (HR3f.out.later hb9)
  clear hb9 hto HAX8 HAY8 HKX8 HKY8 HR4f HR3f HB8
  go_wp2_with fail
  refine (X6.out _ HB9.out H60.out).mono ?_
  rintro e wa ⟨va, rfl, ta2, tc2, rfl, hba, hto2⟩
  have HBa := hid (HB9.out.trans (hba.mono HB9.out.size))
  have HTa := hid (owns_below HT9.out hba)
  have HTb := hid hto2
  have HAXa := hid (At.later' HAX9.out hba)
  have HAYa := hid (At.later' HAY9.out hba)
  have HKXa := hid (HKX9.out.later hba)
  have HKYa := hid (HKY9.out.later hba)
  have HR4h := hid (HR4g.out.later hba)
  have HR3h := hid (HR3g.out.later hba)
  clear hba hto2 HAX9 HAY9 HKX9 HKY9 HR4g HR3g HB9 X5 X6 HT9
  have hl60 := H60.out
  go_wp2_with fail
  go_loopw [19] (fun i wr => ∃ k : Nat, k ≤ l.length ∧ i = .int .i64 k ∧ Hid (Below wa.heap.size wa wr)) (fun i _ => l.length - (intOf i).toNat)
  case atStart => exact ⟨0, Nat.zero_le _, rfl, hid (Below.refl _ _)⟩
  case round =>
    obtain ⟨k, hk, rfl, HBr⟩ := hrel
    by_cases hlt : k < l.length
    · obtain ⟨g1, d1, e1, hg1, hg1l⟩ := owns_at HTa.out (by omega)
      obtain ⟨g2, d2, e2, hg2, hg2l⟩ := owns_at HTb.out (by omega)
      cases e1
      cases e2
      obtain ⟨x, hx⟩ : ∃ x, l[k] = x := ⟨_, rfl⟩
      have hcell : ∀ (g tc : Nat) (B : Nat), wa.ownsRow B 25 2 (.slice (some ⟨g, 0, none⟩) l.length tc) l.length (trs (l.map Kq.core)) → g < wa.heap.size → wr.cell? ⟨g, k * 2, none⟩ = some (.int .u64 x.hi) ∧ wr.cell? ⟨g, k * 2 + 1, none⟩ = some (.int .u64 x.lo) := fun g tc B ho hg => by
        have h1 := fun (j : Nat) (hj : j < 2) (u : Value) (hu : ([Value.int .u64 x.hi, .int .u64 x.lo] : List Value)[j]? = some u) => (by
          have hc := ho.cellAt (k * 2 + j) (by omega)
          have hf := flat_get (enc := fun k : Kp => [Value.int .u64 k.hi, .int .u64 k.lo]) (k := 2) (fun _ => rfl) (l.map Kq.core) k (by simpa using hlt) j hj
          rw [List.getElem_map, hx] at hf
          unfold trs at hc
          rw [hf] at hc
          exact (HBr.out.cell (p := ⟨g, k * 2 + j, none⟩) hg).trans (hc.trans hu) : wr.cell? ⟨g, k * 2 + j, none⟩ = some u)
        exact ⟨h1 0 (by decide) _ rfl, h1 1 (by decide) _ rfl⟩
      obtain ⟨p0, p1⟩ := hcell g1 tc _ HTa.out hg1l
      obtain ⟨r0, r1⟩ := hcell g2 tc2 _ HTb.out hg2l
      have hw1 : g1 < wr.heap.size := Nat.lt_of_lt_of_le hg1l HBr.out.size
      have hw2 : g2 < wr.heap.size := Nat.lt_of_lt_of_le hg2l HBr.out.size
      have hee := eqTr x.hi x.lo x.hi x.lo
      rw [decide_eq_true (show x.hi = x.hi ∧ x.lo = x.lo from ⟨rfl, rfl⟩)] at hee
      clear hcell hx
      go_wp2_with fail
      refine wp_region_bw (by kernel_rfl) (by kernel_rfl) ?_
      repeat (go_big_quiet_step (fail))
      refine wpQuiet_nil ?_
      rintro wz ⟨⟨_, hbz⟩, rfl⟩
      have HBz := hid (HBr.out.trans (hbz.mono HBr.out.size))
      clear hbz p0 p1 r0 r1 hee
      go_wp2_with fail
      go_roundw
      case rel => exact ⟨k + 1, by omega, by go_num, HBz⟩
      case measure => simp [intOf]; omega
    · obtain rfl : k = l.length := by omega
      have HXK : Hid (∀ w', Below wr.heap.size wr w' → Blk w' w5.heap.size #[.int .u64 x.hi, .int .u64 x.lo, .slice x.pa x.sp.length x.pcap, .bool x.spilled, .bool x.clash] 34 ∧ Blk w' w7.heap.size #[.int .u64 y.hi, .int .u64 y.lo, .slice y.pa y.sp.length y.pcap, .bool y.spilled, .bool y.clash] 34) := hid (fun w' hb => by
        have hh := HBr.out.trans (hb.mono HBr.out.size)
        exact ⟨HKXa.out.later hh, HKYa.out.later hh⟩)
      have XS := hid (same_add (HR3h.out.later HBr.out) (HR4h.out.later HBr.out) HKL.out.1 HKL.out.2)
      have XO : Hid (∀ w', Below wr.heap.size wr w' → Calls Try.prog 16 #[.agg #[.int .u64 x.hi, .int .u64 x.lo, .slice x.pa x.sp.length x.pcap, .bool x.spilled, .bool x.clash], .agg #[.int .u64 y.hi, .int .u64 y.lo, .slice y.pa y.sp.length y.pcap, .bool y.spilled, .bool y.clash]] w' fun e w'' => e = .returned (.bool true) ∧ Below w'.heap.size w' w'') := hid (fun w' hb => by
        have hh := HBr.out.trans (hb.mono HBr.out.size)
        have ex : x.sp = (Kp.get (l.map Kq.core) hi lo).sp := congrArg Kp.sp HCX.out
        have ey : y.sp = (Kp.get (l.map Kq.core) hi lo).sp := congrArg Kp.sp HCY.out
        have := HGS.out
        exact one_any x y true w' (At.later' HAXa.out hh) (At.later' HAYa.out hh) (by rw [ex]; omega) (by rw [ey]; omega) (decide_eq_true (HCX.out.trans HCY.out.symm)))
      have HBW := hid (HBa.out.trans (HBr.out.mono HBa.out.size))
      clear HKXa HKYa HR3h HR4h HAXa HAYa HTa HTb HCX HCY HGS HKL HSP
      go_wp2_with fail
      refine XS.out.mono ?_
      rintro e wb ⟨rfl, hbb⟩
      obtain ⟨x0, x1, x2, x3, x4, -⟩ := blk5 (HXK.out wb hbb).1
      obtain ⟨y0, y1, y2, y3, y4, -⟩ := blk5 (HXK.out wb hbb).2
      have HXO := hid (XO.out wb hbb)
      have HBb := hid (HBW.out.trans (hbb.mono HBW.out.size))
      have hgg : ((Kp.gone (l.map Kq.core) room s : Nat) : Int) = (Kp.gone (l.map Kq.core) room s : Nat) := rfl
      generalize Kp.gone (l.map Kq.core) room s = gn at *
      have hgn : ((gn : Int) == (gn : Int)) = true := by simp
      generalize Kp.has (l.map Kq.core) hi lo = qh at *
      have hqh : (qh == qh) = true := by simp
      clear hbb XS XO hgg
      go_wp2_with fail
      refine HXO.out.mono ?_
      rintro e wc ⟨rfl, hbc⟩
      have HBc := hid (HBb.out.trans (hbc.mono HBb.out.size))
      clear hbc x0 x1 x2 x3 x4 y0 y1 y2 y3 y4
      go_wp2_with fail
      refine (HK.out _).mono ?_
      rintro e wd ⟨rfl, hbd⟩
      have HBd := hid (HBc.out.trans (hbd.mono HBc.out.size))
      clear hbd
      go_wp2_with fail
      go_ret
      exact ⟨rfl, HBd.out⟩
end C30
end Go.Proofs.Ytdamnbldimompaa
