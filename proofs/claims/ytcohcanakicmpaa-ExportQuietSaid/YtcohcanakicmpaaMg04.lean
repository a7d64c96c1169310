/- Walks of layer 10 (batch): whether a batch may be, where it may; its bytes; no condition. Walks of layer 10 (batch): a batch's bytes; no condition. Walks of layer 9 (spanrec): numbers read where they stand; no condition. Walks of layer 9 (spanrec): a span read where its bytes stand; no condition. Walks of layer 10 (batch): a batch read back from its bytes; no condition. Batches under way, whose spans lie in memory of their own. No program in sight. -/
import Derived.Test.YtcohcanakicmpaaMg03
import Derived.Test.YtcohcanakicmpaaMg02
import Derived.Deep.RegionHeld3
namespace Go.Proofs.Ytcohcanakicmpaa
open Go.RowKit Go.Peri
namespace C10
open C01 (ofNats ofNats_size)
open C02 (vB vB_size vB_le)
open C09 (spW spW_size chS good_of fold_succ fold_size)
open C25 (blk11)
theorem blk3o {w : World} {g t : Nat} {a0 a1 a2 : Value} (h : Blk w g #[a0, a1, a2] t) : w.cell? ⟨g, 0, none⟩ = some a0 ∧ w.cell? ⟨g, 1, none⟩ = some a1 ∧ w.cell? ⟨g, 2, none⟩ = some a2 := ⟨h.cell 0, h.cell 1, h.cell 2⟩
/-- A batch that may be. -/
structure Okb (node seq : Nat) (sp : List Sp) : Prop where
  node : node ≤ 7
  seq : seq ≤ 1099511627776
  len : 1 ≤ sp.length ∧ sp.length ≤ 16
  sp : ∀ x ∈ sp, x.Wf ∧ chS x = 0
def hdB : ByteArray := ⟨#[80, 66, 1]⟩
def body (node seq : Nat) (sp : List Sp) : ByteArray := (sp.map spW).foldl (· ++ ·) (hdB ++ vB node ++ vB seq ++ vB sp.length)
/-- Its bytes. -/
def bW (node seq : Nat) (sp : List Sp) : ByteArray := body node seq sp ++ C03.tailR (body node seq sp)
theorem head_size {node seq : Nat} {sp : List Sp} (h : Okb node seq sp) : (hdB ++ vB node ++ vB seq ++ vB sp.length).size ≤ 40 := by
  have h1 := h.node
  have h2 := h.seq
  have h3 := h.len
  have a1 := vB_le (n := node) (by omega)
  have a2 := vB_le (n := seq) (by omega)
  have a3 := vB_le (n := sp.length) (by omega)
  simp only [ByteArray.size_append]
  have : hdB.size = 3 := rfl
  omega
theorem part_size {node seq : Nat} {sp : List Sp} (h : Okb node seq sp) (k : Nat) : (((sp.map spW).take k).foldl (· ++ ·) (hdB ++ vB node ++ vB seq ++ vB sp.length)).size ≤ 4000 := by
  have h1 := fold_size (N := 200) ((sp.map spW).take k) (hdB ++ vB node ++ vB seq ++ vB sp.length) (fun y hy => by
    obtain ⟨x, hx, rfl⟩ := List.mem_map.1 (List.mem_of_mem_take hy)
    exact spW_size (good_of (h.sp x hx).2))
  have h2 := head_size h
  have h3 := h.len
  have h4 : ((sp.map spW).take k).length ≤ 16 := by rw [List.length_take, List.length_map]; omega
  have h5 : ((sp.map spW).take k).length * 200 ≤ 16 * 200 := Nat.mul_le_mul_right _ h4
  omega
theorem body_size {node seq : Nat} {sp : List Sp} (h : Okb node seq sp) : (body node seq sp).size ≤ 4000 := by
  have := part_size h sp.length
  rwa [List.take_of_length_le (by rw [List.length_map]; exact Nat.le_refl _)] at this
set_option maxRecDepth 100000 in
theorem place_any (node seq : Nat) (W : World) (h1 : node ≤ 7) (h2 : seq ≤ 1099511627776) : Calls Try.prog 82 #[.int .i64 node, .int .i64 seq] W fun e w' => e = .returned (.bool true) ∧ W = w' := by
  have a1 : (node : Int) < 8 := by omega
  have a2 : (seq : Int) ≤ 1099511627776 := by omega
  clear h1 h2
  go_enter Try.func82, Try.ntmps82
  go_wp2_with fail
  go_ret
  exact ⟨rfl, rfl⟩
set_option maxRecDepth 100000 in
theorem rplace_any (node seq : Nat) (W : World) (h1 : node ≤ 7) (h2 : seq ≤ 1099511627776) : Calls Try.prog 66 #[.int .i64 node, .int .i64 seq] W fun e w' => e = .returned (.bool true) ∧ W = w' := by
  have a1 : (node : Int) < 8 := by omega
  have a2 : (seq : Int) ≤ 1099511627776 := by omega
  clear h1 h2
  go_enter Try.func66, Try.ntmps66
  go_wp2_with fail
  go_ret
  exact ⟨rfl, rfl⟩
set_option maxRecDepth 100000 in
set_option maxHeartbeats 4000000 in
theorem bcheck_any {p : Nat → Prop} (node seq : Nat) (a : Option Addr) (cap : Nat) (sp : List Sp) (W : World) (h : RowsOf p Sp.enc 11 W (.slice a sp.length cap) sp) (hp : ∀ b, p b → b < W.heap.size) (ok : Okb node seq sp) :
    Calls Try.prog 51 #[.agg #[.int .i64 node, .int .i64 seq, .slice a sp.length cap]] W fun e w' => e = .returned (.int .i64 0) ∧ Below W.heap.size W w' := by
  have XP := hid (fun w => place_any node seq w ok.node ok.seq)
  obtain ⟨a', cap', e', hlc, hcm, _, hcell⟩ := h
  cases e'
  have HC := hid hcell
  have HP := hid hp
  have HOK := hid ok.sp
  have hl := ok.len
  have hl0 : ((sp.length : Int) == 0) = false := by rw [beq_eq_false_iff_ne]; omega
  have hl1 : ¬ (16 : Int) < (sp.length : Int) := by omega
  clear hcell hp ok
  go_enter Try.func51, Try.ntmps51
  go_upto_region 1 with fail
  refine wp_genS ?_
  intro w1 hw1
  have hb1 : Below W.heap.size W w1 := by rw [hw1]; go_grown
  have hk1 : Blk w1 W.heap.size #[.int .i64 node, .int .i64 seq, .slice a sp.length cap] 45 := by rw [hw1]; exact Blk.new _ _ _
  clear hw1
  have HB1 := hid hb1
  obtain ⟨x0, x1, x2⟩ := blk3o hk1
  clear hb1 hk1
  go_wp2_with fail
  refine (XP.out _).mono ?_
  rintro e w2 ⟨rfl, rfl⟩
  go_wp2_with fail
  clear x0 x1 x2
  go_loopw [26] (fun i wr => ∃ k : Nat, k ≤ sp.length ∧ i = .int .i64 k ∧ Hid (Below W.heap.size W wr)) (fun i _ => sp.length - (intOf i).toNat)
  case atStart => exact ⟨0, Nat.zero_le _, rfl, HB1⟩
  case round =>
    obtain ⟨k, hk, rfl, HB⟩ := hrel
    by_cases hlt : k < sp.length
    · obtain ⟨b, off, rfl, hpb, hc⟩ := HC.out.resolve_left (by intro e; rw [e] at hlt; simp at hlt)
      have hbl := HP.out b hpb
      obtain ⟨c0, c1, c2, c3, c4, c5, c6, c7, c8, c9, c10⟩ := Sp.cells (fun j u hu => (HB.out.cell (p := ⟨b, off + k * 11 + j, none⟩) hbl).trans (hc k hlt j u hu))
      obtain ⟨hwf, hch⟩ := HOK.out sp[k] (List.getElem_mem hlt)
      have X := hid (fun w => C09.scheck_any sp[k] 0 w hwf hch)
      clear hc hwf hch
      generalize sp[k] = y at c0 c1 c2 c3 c4 c5 c6 c7 c8 c9 c10 X
      have HB1' : Hid (Below W.heap.size W (wr.alloc (.cells #[.int .u64 y.hi, .int .u64 y.lo, .int .u64 y.id, .int .u64 y.up, .string y.name, .int .i64 y.status, .int .i64 y.seq, .int .i64 y.kids, .bool y.shadow, .int .i64 y.start, .int .i64 y.stop] 37))) := hid (HB.out.alloc HB.out.size _)
      go_wp2_with fail
      refine (X.out _).mono ?_
      rintro e w3 ⟨rfl, hb3⟩
      have HB3 := hid (HB1'.out.trans (hb3.mono HB1'.out.size))
      clear hb3 c0 c1 c2 c3 c4 c5 c6 c7 c8 c9 c10 X
      go_wp2_with fail
      go_roundw
      case rel => exact ⟨k + 1, by omega, by go_num, HB3⟩
      case measure => simp [intOf]; omega
    · obtain rfl : k = sp.length := by omega
      go_wp2_with fail
      go_ret
      exact ⟨rfl, HB.out⟩
set_option maxRecDepth 100000 in
set_option maxHeartbeats 4000000 in
theorem rbcheck_any {p : Nat → Prop} (node seq : Nat) (a : Option Addr) (cap : Nat) (sp : List Sp) (W : World) (h : RowsOf p Sp.enc 11 W (.slice a sp.length cap) sp) (hp : ∀ b, p b → b < W.heap.size) (ok : Okb node seq sp) :
    Calls Try.prog 40 #[.agg #[.int .i64 node, .int .i64 seq, .slice a sp.length cap]] W fun e w' => e = .returned (.int .i64 0) ∧ Below W.heap.size W w' := by
  have XP := hid (fun w => rplace_any node seq w ok.node ok.seq)
  obtain ⟨a', cap', e', hlc, hcm, _, hcell⟩ := h
  cases e'
  have HC := hid hcell
  have HP := hid hp
  have HOK := hid ok.sp
  have hl := ok.len
  have hl0 : ((sp.length : Int) == 0) = false := by rw [beq_eq_false_iff_ne]; omega
  have hl1 : ¬ (16 : Int) < (sp.length : Int) := by omega
  clear hcell hp ok
  go_enter Try.func40, Try.ntmps40
  go_upto_region 1 with fail
  refine wp_genS ?_
  intro w1 hw1
  have hb1 : Below W.heap.size W w1 := by rw [hw1]; go_grown
  have hk1 : Blk w1 W.heap.size #[.int .i64 node, .int .i64 seq, .slice a sp.length cap] 45 := by rw [hw1]; exact Blk.new _ _ _
  clear hw1
  have HB1 := hid hb1
  have HK1 := hid hk1
  obtain ⟨x0, x1, x2⟩ := blk3o hk1
  clear hb1 hk1
  go_wp2_with fail
  refine (XP.out _).mono ?_
  rintro e w2 ⟨rfl, rfl⟩
  go_wp2_with fail
  clear x0 x1 x2
  go_loopw [3] (fun i wr => ∃ k : Nat, k ≤ sp.length ∧ i = .int .i64 k ∧ Hid (Below w1.heap.size w1 wr)) (fun i _ => sp.length - (intOf i).toNat)
  case atStart => exact ⟨0, Nat.zero_le _, rfl, hid (Below.refl _ _)⟩
  case round =>
    obtain ⟨k, hk, rfl, HB⟩ := hrel
    have HBW := hid (HB1.out.trans (HB.out.mono HB1.out.size))
    obtain ⟨x0, x1, x2⟩ := blk3o (HK1.out.later HB.out)
    by_cases hlt : k < sp.length
    · obtain ⟨b, off, rfl, hpb, hc⟩ := HC.out.resolve_left (by intro e; rw [e] at hlt; simp at hlt)
      have hbl := HP.out b hpb
      obtain ⟨c0, c1, c2, c3, c4, c5, c6, c7, c8, c9, c10⟩ := Sp.cells (fun j u hu => (HBW.out.cell (p := ⟨b, off + k * 11 + j, none⟩) hbl).trans (hc k hlt j u hu))
      obtain ⟨hwf, hch⟩ := HOK.out sp[k] (List.getElem_mem hlt)
      have X := hid (fun w => C09.rscheck_any sp[k] 0 w hwf hch)
      clear hc hwf hch
      generalize sp[k] = y at c0 c1 c2 c3 c4 c5 c6 c7 c8 c9 c10 X
      go_wp2_with fail
      refine (X.out _).mono ?_
      rintro e w3 ⟨rfl, hb3⟩
      have HB3 := hid (HB.out.trans (hb3.mono HB.out.size))
      clear hb3 c0 c1 c2 c3 c4 c5 c6 c7 c8 c9 c10 X
      go_wp2_with fail
      go_roundw
      case rel => exact ⟨k + 1, by omega, by go_num, HB3⟩
      case measure => simp [intOf]; omega
    · obtain rfl : k = sp.length := by omega
      go_wp2_with fail
      go_ret
      exact ⟨rfl, HBW.out⟩
end C10
end Go.Proofs.Ytcohcanakicmpaa
namespace Go.Proofs.Ytcohcanakicmpaa
open Go.RowKit Go.Peri
namespace C10
open C01 (ofNats ofNats_size)
open C02 (vB vB_size vB_le)
open C09 (spW spW_size chS good_of fold_succ fold_size)
open C25 (blk11)
set_option maxRecDepth 100000 in
set_option maxHeartbeats 4000000 in
theorem numbers_any (g n1 n2 n3 : Nat) (w : World) (h : Blk w g #[.int .i64 n1, .int .i64 n2, .int .i64 n3] 3) (h1 : n1 < 9223372036854775808) (h2 : n2 < 9223372036854775808) (h3 : n3 < 9223372036854775808) :
    Calls Try.prog 52 #[.slice (some ⟨g, 0, none⟩) 3 3] w fun e w' => e = .returned (.string (vB n1 ++ vB n2 ++ vB n3)) ∧ Below w.heap.size w w' := by
  obtain ⟨vs, hvs⟩ : ∃ vs : List Nat, vs = [n1, n2, n3] := ⟨_, rfl⟩
  have hvl : vs.length = 3 := by rw [hvs]; rfl
  have hvb : ∀ n ∈ vs, n < 9223372036854775808 := by rw [hvs]; simp; omega
  have XV : Hid (∀ (n : Nat) w, n < 18446744073709551616 → _) := hid (fun n w hn => C02.vput_any n w hn)
  have HC : Hid (∀ k, k < 3 → w.cell? ⟨g, k, none⟩ = some (.int .i64 (vs[k]! : Nat))) := hid (fun k hk => by
    rw [hvs]
    have := h.cell k
    obtain rfl | rfl | rfl : k = 0 ∨ k = 1 ∨ k = 2 := by omega
    all_goals exact this)
  have hlt := h.lt
  have HF : Hid ((vs.map vB).foldl (· ++ ·) ByteArray.empty = vB n1 ++ vB n2 ++ vB n3) := hid (by
    rw [hvs]
    simp only [List.map_cons, List.map_nil, List.foldl_cons, List.foldl_nil, C09.cat0])
  have HVB := hid hvb
  clear h h1 h2 h3 hvs hvb
  go_enter Try.func52, Try.ntmps52
  go_wp2_with fail
  go_loopw [3, 8] (fun s3 s8 wr => ∃ k : Nat, k ≤ 3 ∧ s8 = .int .i64 k ∧ s3 = .string (((vs.map vB).take k).foldl (· ++ ·) ByteArray.empty) ∧ Hid (Below w.heap.size w wr)) (fun _ i _ => 3 - (intOf i).toNat)
  case atStart => exact ⟨0, by omega, rfl, rfl, hid (Below.refl _ _)⟩
  case round =>
    obtain ⟨k, hk, rfl, rfl, HBS⟩ := hrel
    by_cases hk6 : k < 3
    · have c0 := (HBS.out.cell (p := ⟨g, k, none⟩) hlt).trans (HC.out k hk6)
      have hkl : k < (vs.map vB).length := by rw [List.length_map, hvl]; exact hk6
      have hn := HVB.out vs[k]! (by rw [getElem!_pos vs k (by omega)]; exact List.getElem_mem _)
      have HS : Hid (((vs.map vB).take (k + 1)).foldl (· ++ ·) ByteArray.empty = ((vs.map vB).take k).foldl (· ++ ·) ByteArray.empty ++ vB vs[k]!) := hid (by
        rw [fold_succ _ hkl, getElem!_pos _ k hkl, List.getElem_map, getElem!_pos vs k (by omega)])
      have hsz : (((vs.map vB).take k).foldl (· ++ ·) ByteArray.empty).size ≤ 1000 := by
        have f1 := fold_size (N := 10) ((vs.map vB).take k) ByteArray.empty (fun y hy => by
          obtain ⟨n, hn, rfl⟩ := List.mem_map.1 (List.mem_of_mem_take hy)
          exact vB_le (by have := HVB.out n hn; omega))
        have f3 : ByteArray.empty.size = 0 := rfl
        rw [List.length_take, List.length_map, hvl] at f1
        omega
      generalize vs[k]! = n at c0 hn HS
      generalize ((vs.map vB).take k).foldl (· ++ ·) ByteArray.empty = acc2 at HS hsz ⊢
      have hwn : IntKind.u64.wrap (n : Int) = (n : Int) := IntWalk.u64_in _ (by omega)
      have X := hid (XV.out n wr (by omega))
      have hez := vB_le (n := n) (by omega)
      generalize vB n = en at X HS hez
      have hlen2 : (acc2.size : Int) + (en.size : Int) ≤ 9223372036854775807 := by omega
      clear hn hez
      go_wp2_with fail
      refine X.out.mono ?_
      rintro e w6 ⟨rfl, hb6⟩
      have HB6 := hid (HBS.out.trans (hb6.mono HBS.out.size))
      clear hb6 X c0
      go_wp2_with fail
      go_roundw
      case rel => exact ⟨k + 1, by omega, by go_num, by rw [HS.out], HB6⟩
      case measure => simp [intOf]; omega
    · obtain rfl : k = 3 := by omega
      have htk6 : Hid (((vs.map vB).take 3).foldl (· ++ ·) ByteArray.empty = vB n1 ++ vB n2 ++ vB n3) := hid (by rw [List.take_of_length_le (by rw [List.length_map, hvl]; exact Nat.le_refl _)]; exact HF.out)
      rw [htk6.out]
      go_wp2_with fail
      go_ret
      exact ⟨rfl, HBS.out⟩
set_option maxRecDepth 100000 in
set_option maxHeartbeats 4000000 in
theorem bwrite_any {p : Nat → Prop} (node seq : Nat) (a : Option Addr) (cap : Nat) (sp : List Sp) (W : World) (h : RowsOf p Sp.enc 11 W (.slice a sp.length cap) sp) (hp : ∀ b, p b → b < W.heap.size) (ok : Okb node seq sp) :
    Calls Try.prog 28 #[.agg #[.int .i64 node, .int .i64 seq, .slice a sp.length cap]] W fun e w' => e = .returned (.tuple #[.string (bW node seq sp), .int .i64 0]) ∧ Below W.heap.size W w' := by
  have XC : Hid (∀ w, Below W.heap.size W w → _) := hid (fun w hb => bcheck_any node seq a cap sp w (h.below hb hp) (fun b hb' => Nat.lt_of_lt_of_le (hp b hb') hb.size) ok)
  have XS := hid (fun w => C03.seal_any (body node seq sp) w (by have := body_size ok; omega))
  have HPS := hid (part_size ok)
  have XN : Hid (∀ (g : Nat) w, Blk w g #[.int .i64 node, .int .i64 seq, .int .i64 sp.length] 3 → _) := hid (fun g w hb => numbers_any g node seq sp.length w hb (by have := ok.node; omega) (by have := ok.seq; omega) (by have := ok.len; omega))
  have HHD : Hid (hdB ++ (vB node ++ vB seq ++ vB sp.length) = hdB ++ vB node ++ vB seq ++ vB sp.length) := hid (by rw [← ByteArray.append_assoc, ← ByteArray.append_assoc])
  have hsz0 := head_size ok
  obtain ⟨a', cap', e', hlc, hcm, _, hcell⟩ := h
  cases e'
  have HC := hid hcell
  have HP := hid hp
  have HOK := hid ok.sp
  have hl := ok.len
  have HG := hid (fun x hx => spW_size (good_of (ok.sp x hx).2))
  clear hcell hp ok
  have hsz1 : (hdB.size : Int) + ((vB node ++ vB seq ++ vB sp.length).size : Int) ≤ 9223372036854775807 := by
    have : (hdB ++ (vB node ++ vB seq ++ vB sp.length)).size ≤ 40 := by rw [HHD.out]; exact hsz0
    rw [ByteArray.size_append] at this
    omega
  obtain ⟨H0, hH0⟩ : ∃ H, H = hdB ++ vB node ++ vB seq ++ vB sp.length := ⟨_, rfl⟩
  have HB0 : Hid (body node seq sp = (sp.map spW).foldl (· ++ ·) H0) := hid (by rw [hH0]; rfl)
  have HPS2 : Hid (∀ k, (((sp.map spW).take k).foldl (· ++ ·) H0).size ≤ 4000) := hid (by rw [hH0]; exact HPS.out)
  rw [← hH0] at HHD
  clear HPS hsz0 hH0
  generalize vB node ++ vB seq ++ vB sp.length = nums at XN HHD hsz1
  go_enter Try.func28, Try.ntmps28
  go_upto_region 1 with fail
  refine wp_genS ?_
  intro w1 hw1
  have hb1 : Below W.heap.size W w1 := by rw [hw1]; go_grown
  have hk1 : Blk w1 W.heap.size #[.int .i64 node, .int .i64 seq, .slice a sp.length cap] 45 := by rw [hw1]; exact Blk.new _ _ _
  clear hw1
  have HB1 := hid hb1
  have HK1 := hid hk1
  obtain ⟨x0, x1, x2⟩ := blk3o hk1
  clear hb1 hk1
  go_wp2_with fail
  refine (XC.out _ HB1.out).mono ?_
  rintro e w2 ⟨rfl, hb2⟩
  have HB2 := hid (HB1.out.trans (hb2.mono HB1.out.size))
  have HK2 := hid (HK1.out.later hb2)
  clear hb2 x0 x1 x2 XC
  obtain ⟨x0, x1, x2⟩ := blk3o HK2.out
  have X := hid (XN.out w2.heap.size (w2.alloc (.cells #[.int .i64 node, .int .i64 seq, .int .i64 sp.length] 3)) (Blk.new _ _ _))
  have hd0 : (⟨#[80, 66, 1]⟩ : ByteArray) = hdB := rfl
  go_wp2_with fail
  refine X.out.mono ?_
  rintro e w3 ⟨rfl, hb3⟩
  have hb23 : Below w2.heap.size w2 w3 := ((Below.refl w2.heap.size w2).alloc (Nat.le_refl _) _).trans (hb3.mono (by simp))
  have HB3 := hid (HB2.out.trans (hb23.mono HB2.out.size))
  have HK3 := hid (HK2.out.later hb23)
  clear hb3 hb23 x0 x1 x2 X XN
  obtain ⟨x0, x1, x2⟩ := blk3o HK3.out
  go_wp2_with fail
  rw [HHD.out]
  clear x0 x1 x2
  go_loopw [5, 28] (fun s5 i wr => ∃ k : Nat, k ≤ sp.length ∧ i = .int .i64 k ∧ s5 = .string (((sp.map spW).take k).foldl (· ++ ·) H0) ∧ Hid (Below W.heap.size W wr)) (fun _ i _ => sp.length - (intOf i).toNat)
  case atStart => exact ⟨0, Nat.zero_le _, rfl, rfl, HB3⟩
  case round =>
    obtain ⟨k, hk, rfl, rfl, HB⟩ := hrel
    by_cases hlt : k < sp.length
    · obtain ⟨b, off, rfl, hpb, hc⟩ := HC.out.resolve_left (by intro e; rw [e] at hlt; simp at hlt)
      have hbl := HP.out b hpb
      obtain ⟨c0, c1, c2, c3, c4, c5, c6, c7, c8, c9, c10⟩ := Sp.cells (fun j u hu => (HB.out.cell (p := ⟨b, off + k * 11 + j, none⟩) hbl).trans (hc k hlt j u hu))
      obtain ⟨hwf, hch⟩ := HOK.out sp[k] (List.getElem_mem hlt)
      have X := hid (fun w => C09.swrite_any sp[k] w hwf hch)
      have hkl : k < (sp.map spW).length := by rw [List.length_map]; exact hlt
      have HS : Hid (((sp.map spW).take (k + 1)).foldl (· ++ ·) H0 = ((sp.map spW).take k).foldl (· ++ ·) H0 ++ spW sp[k]) := hid (by
        rw [fold_succ _ hkl, getElem!_pos _ k hkl, List.getElem_map])
      have hz1 := HPS2.out k
      have hz2 := HG.out sp[k] (List.getElem_mem hlt)
      clear hc hwf hch
      generalize sp[k] = y at c0 c1 c2 c3 c4 c5 c6 c7 c8 c9 c10 X HS hz2
      generalize spW y = ey at X HS hz2
      generalize ((sp.map spW).take k).foldl (· ++ ·) H0 = acc at HS hz1 ⊢
      have hlen2 : (acc.size : Int) + (ey.size : Int) ≤ 9223372036854775807 := by omega
      have HB1' : Hid (Below W.heap.size W (wr.alloc (.cells #[.int .u64 y.hi, .int .u64 y.lo, .int .u64 y.id, .int .u64 y.up, .string y.name, .int .i64 y.status, .int .i64 y.seq, .int .i64 y.kids, .bool y.shadow, .int .i64 y.start, .int .i64 y.stop] 37))) := hid (HB.out.alloc HB.out.size _)
      clear hz1 hz2
      go_wp2_with fail
      refine (X.out _).mono ?_
      rintro e w4 ⟨rfl, hb4⟩
      have HB4 := hid (HB1'.out.trans (hb4.mono HB1'.out.size))
      clear hb4 c0 c1 c2 c3 c4 c5 c6 c7 c8 c9 c10 X
      go_wp2_with fail
      go_roundw
      case rel => exact ⟨k + 1, by omega, by go_num, by rw [HS.out], HB4⟩
      case measure => simp [intOf]; omega
    · obtain rfl : k = sp.length := by omega
      have htk : Hid (((sp.map spW).take sp.length).foldl (· ++ ·) H0 = body node seq sp) := hid (by rw [List.take_of_length_le (by rw [List.length_map]; exact Nat.le_refl _), HB0.out])
      rw [htk.out]
      go_wp2_with fail
      refine (XS.out _).mono ?_
      rintro e w4 ⟨rfl, hb4⟩
      have HB4 := hid (HB.out.trans (hb4.mono HB.out.size))
      clear hb4
      go_wp2_with fail
      go_ret2
      exact ⟨rfl, HB4.out⟩
set_option maxRecDepth 100000 in
set_option maxHeartbeats 4000000 in
theorem rbwrite_any {p : Nat → Prop} (node seq : Nat) (a : Option Addr) (cap : Nat) (sp : List Sp) (W : World) (h : RowsOf p Sp.enc 11 W (.slice a sp.length cap) sp) (hp : ∀ b, p b → b < W.heap.size) (ok : Okb node seq sp) :
    Calls Try.prog 18 #[.agg #[.int .i64 node, .int .i64 seq, .slice a sp.length cap]] W fun e w' => e = .returned (.tuple #[.string (bW node seq sp), .int .i64 0]) ∧ Below W.heap.size W w' := by
  have XC : Hid (∀ w, Below W.heap.size W w → _) := hid (fun w hb => rbcheck_any node seq a cap sp w (h.below hb hp) (fun b hb' => Nat.lt_of_lt_of_le (hp b hb') hb.size) ok)
  have XS := hid (fun w => C03.rseal_any (body node seq sp) w (by have := body_size ok; omega))
  have HPS := hid (part_size ok)
  have XE0 := hid (fun w => C02.rvput_any node w (by have := ok.node; omega))
  have XE1 := hid (fun w => C02.rvput_any seq w (by have := ok.seq; omega))
  have XE2 := hid (fun w => C02.rvput_any sp.length w (by have := ok.len; omega))
  have w0 : IntKind.u64.wrap (node : Int) = (node : Int) := IntWalk.u64_in _ (by have := ok.node; omega)
  have w1 : IntKind.u64.wrap (seq : Int) = (seq : Int) := IntWalk.u64_in _ (by have := ok.seq; omega)
  have w2 : IntKind.u64.wrap (sp.length : Int) = (sp.length : Int) := IntWalk.u64_in _ (by have := ok.len; omega)
  have hsz0 := head_size ok
  obtain ⟨a', cap', e', hlc, hcm, _, hcell⟩ := h
  cases e'
  have HC := hid hcell
  have HP := hid hp
  have HOK := hid ok.sp
  have hl := ok.len
  have HG := hid (fun x hx => spW_size (good_of (ok.sp x hx).2))
  clear hcell hp ok
  obtain ⟨H0, hH0⟩ : ∃ H, H = hdB ++ vB node ++ vB seq ++ vB sp.length := ⟨_, rfl⟩
  have HB0 : Hid (body node seq sp = (sp.map spW).foldl (· ++ ·) H0) := hid (by rw [hH0]; rfl)
  have HPS2 : Hid (∀ k, (((sp.map spW).take k).foldl (· ++ ·) H0).size ≤ 4000) := hid (by rw [hH0]; exact HPS.out)
  generalize vB node = p1 at XE0 hH0 hsz0
  generalize vB seq = p2 at XE1 hH0 hsz0
  generalize vB sp.length = p3 at XE2 hH0 hsz0
  have y1 : (hdB.size : Int) + (p1.size : Int) ≤ 9223372036854775807 := by simp only [ByteArray.size_append] at hsz0; omega
  have y2 : ((hdB ++ p1).size : Int) + (p2.size : Int) ≤ 9223372036854775807 := by simp only [ByteArray.size_append] at hsz0 ⊢; omega
  have y3 : ((hdB ++ p1 ++ p2).size : Int) + (p3.size : Int) ≤ 9223372036854775807 := by simp only [ByteArray.size_append] at hsz0 ⊢; omega
  have hd0 : (⟨#[80, 66, 1]⟩ : ByteArray) = hdB := rfl
  have HH0 := hid hH0
  clear HPS hsz0 hH0
  go_enter Try.func18, Try.ntmps18
  go_upto_region 1 with fail
  refine wp_genS ?_
  intro w1 hw1
  have hb1 : Below W.heap.size W w1 := by rw [hw1]; go_grown
  have hk1 : Blk w1 W.heap.size #[.int .i64 node, .int .i64 seq, .slice a sp.length cap] 45 := by rw [hw1]; exact Blk.new _ _ _
  clear hw1
  have HB1 := hid hb1
  have HK1 := hid hk1
  obtain ⟨x0, x1, x2⟩ := blk3o hk1
  clear hb1 hk1
  go_wp2_with fail
  refine (XC.out _ HB1.out).mono ?_
  rintro e w2 ⟨rfl, hb2⟩
  have HB2 := hid (HB1.out.trans (hb2.mono HB1.out.size))
  have HK2 := hid (HK1.out.later hb2)
  clear hb2 x0 x1 x2 XC
  obtain ⟨x0, x1, x2⟩ := blk3o HK2.out
  have hlx := HK2.out.lt
  go_wp2_with fail
  refine wp_region_bw (by kernel_rfl) (by kernel_rfl) ?_
  repeat (go_big_quiet_step ((go_at_call 41; first | (with_reducible exact bw_call (XE0.out _)) | (with_reducible exact bw_call (XE1.out _)) | (with_reducible exact bw_call (XE2.out _)))))
  refine wpQuiet_nil ?_
  rintro w3 ⟨⟨_, hb3⟩, rfl⟩
  have HB3 := hid (HB2.out.trans (hb3.mono HB2.out.size))
  have HK3 := hid (HK2.out.later hb3)
  clear hb3 x0 x1 x2 XE0 XE1 XE2 hlx
  go_wp2_with fail
  try rw [hd0]
  rw [← HH0.out]
  go_loopw [4, 5] (fun s4 i wr => ∃ k : Nat, k ≤ sp.length ∧ i = .int .i64 k ∧ s4 = .string (((sp.map spW).take k).foldl (· ++ ·) H0) ∧ Hid (Below w3.heap.size w3 wr)) (fun _ i _ => sp.length - (intOf i).toNat)
  case atStart => exact ⟨0, Nat.zero_le _, rfl, rfl, hid (Below.refl _ _)⟩
  case round =>
    obtain ⟨k, hk, rfl, rfl, HBS⟩ := hrel
    have HB := hid (HB3.out.trans (HBS.out.mono HB3.out.size))
    obtain ⟨x0, x1, x2⟩ := blk3o (HK3.out.later HBS.out)
    by_cases hlt : k < sp.length
    · obtain ⟨b, off, rfl, hpb, hc⟩ := HC.out.resolve_left (by intro e; rw [e] at hlt; simp at hlt)
      have hbl := HP.out b hpb
      obtain ⟨c0, c1, c2, c3, c4, c5, c6, c7, c8, c9, c10⟩ := Sp.cells (fun j u hu => (HB.out.cell (p := ⟨b, off + k * 11 + j, none⟩) hbl).trans (hc k hlt j u hu))
      obtain ⟨hwf, hch⟩ := HOK.out sp[k] (List.getElem_mem hlt)
      have X := hid (fun w => C09.rswrite_any sp[k] w hwf hch)
      have hkl : k < (sp.map spW).length := by rw [List.length_map]; exact hlt
      have HS : Hid (((sp.map spW).take (k + 1)).foldl (· ++ ·) H0 = ((sp.map spW).take k).foldl (· ++ ·) H0 ++ spW sp[k]) := hid (by
        rw [fold_succ _ hkl, getElem!_pos _ k hkl, List.getElem_map])
      have hz1 := HPS2.out k
      have hz2 := HG.out sp[k] (List.getElem_mem hlt)
      clear hc hwf hch
      generalize sp[k] = y at c0 c1 c2 c3 c4 c5 c6 c7 c8 c9 c10 X HS hz2
      generalize spW y = ey at X HS hz2
      generalize ((sp.map spW).take k).foldl (· ++ ·) H0 = acc at HS hz1 ⊢
      have hlen2 : (acc.size : Int) + (ey.size : Int) ≤ 9223372036854775807 := by omega
      clear hz1 hz2
      go_wp2_with fail
      refine (X.out _).mono ?_
      rintro e w4 ⟨rfl, hb4⟩
      have HB4 := hid (HBS.out.trans (hb4.mono HBS.out.size))
      clear hb4 c0 c1 c2 c3 c4 c5 c6 c7 c8 c9 c10 X
      go_wp2_with fail
      go_roundw
      case rel => exact ⟨k + 1, by omega, by go_num, by rw [HS.out], HB4⟩
      case measure => simp [intOf]; omega
    · obtain rfl : k = sp.length := by omega
      have htk : Hid (((sp.map spW).take sp.length).foldl (· ++ ·) H0 = body node seq sp) := hid (by rw [List.take_of_length_le (by rw [List.length_map]; exact Nat.le_refl _), HB0.out])
      rw [htk.out]
      go_wp2_with fail
      refine (XS.out _).mono ?_
      rintro e w4 ⟨rfl, hb4⟩
      have HB4 := hid (HB.out.trans (hb4.mono HB.out.size))
      clear hb4
      go_wp2_with fail
      go_ret2
      exact ⟨rfl, HB4.out⟩
end C10
end Go.Proofs.Ytcohcanakicmpaa
namespace Go.Proofs.Ytcohcanakicmpaa
open Go.RowKit Go.Peri
namespace C09
open C02 (toN toN_len toN_cat toN_of toN_vB get8 vB vB_le)
open Vi (vl AtB)
set_option maxRecDepth 100000 in
theorem number_any (s : ByteArray) (at_ N M : Nat) (W : World) (hs : s.size ≤ 1000000000000) (hN : N < 562949953421312) (hM : N ≤ M) (hM2 : M < 562949953421312) (hat : AtB s at_ (vl N)) :
    Calls Try.prog 30 #[.string s, .int .i64 at_, .int .u64 M] W fun e w' => e = .returned (.tuple #[.int .i64 N, .int .i64 (at_ + (vl N).length : Nat), .int .i64 0]) ∧ W = w' := by
  have X := hid (C02.rget_any s at_ N W hs hN hat)
  have q1 : ¬ (M : Int) < (N : Int) := by omega
  have q2 : IntKind.i64.wrap (N : Int) = (N : Int) := IntWalk.i64_in _ (by omega)
  generalize at_ + (vl N).length = nx at X ⊢
  clear hN hM hM2 hat
  go_enter Try.func30, Try.ntmps30
  go_wp2_with fail
  refine X.out.mono ?_
  rintro e w' ⟨rfl, rfl⟩
  go_wp2_with fail
  go_ret3
  exact ⟨rfl, rfl⟩
theorem elem64 : Elem Try.prog 22 33 1 8 := Elem.mk' (z := .int .u64 0) Try.underlying22 (by kernel_rfl) rfl (by decide)
theorem elemI : Elem Try.prog 32 3 1 8 := Elem.mk' (z := .int .i64 0) Try.underlying32 (by kernel_rfl) rfl (by decide)
def u64s (l : List Nat) : List Value := l.map fun (n : Nat) => Value.int .u64 (n : Int)
def i64s (l : List Nat) : List Value := l.map fun (n : Nat) => Value.int .i64 (n : Int)
def FixQ (W : World) (us : List Nat) (e : Ending) (w' : World) : Prop := ∃ a c, e = .returned (.tuple #[.slice a 4 c, .int .i64 0]) ∧ Below W.heap.size W w' ∧ Hid (w'.ownsRow W.heap.size 33 1 (.slice a 4 c) 4 (u64s us))
theorem flat_at {s : ByteArray} {i k : Nat} {us : List Nat} {g : Nat → List Nat} (h : AtB s i (us.flatMap g)) (hk : k < us.length) : AtB s (i + ((us.take k).flatMap g).length) (g us[k]) := by
  have e : us.flatMap g = (us.take k).flatMap g ++ (g us[k] ++ (us.drop (k + 1)).flatMap g) := by
    conv => lhs; rw [← List.take_append_drop k us, List.drop_eq_getElem_cons hk]
    rw [List.flatMap_append, List.flatMap_cons]
  rw [e] at h
  exact h.right.left
set_option maxRecDepth 100000 in
set_option maxHeartbeats 4000000 in
theorem fixed_any (s : ByteArray) (at_ : Nat) (us : List Nat) (W : World) (hs : s.size ≤ 1000000000000) (hul : us.length = 4) (hub : ∀ n ∈ us, n < 18446744073709551616) (hat : AtB s at_ (us.flatMap (fun n => Oct.dg 256 n 8))) (hr : at_ ≤ s.size) :
    Calls Try.prog 58 #[.string s, .int .i64 at_] W (FixQ W us) := by
  have HAT := hid hat
  have hfl : ∀ k, k ≤ 4 → ((us.take k).flatMap (fun n => Oct.dg 256 n 8)).length = 8 * k := by
    intro k hk
    have : ∀ l : List Nat, (l.flatMap (fun n => Oct.dg 256 n 8)).length = 8 * l.length := by
      intro l
      induction l with
      | nil => rfl
      | cons x l ih => rw [List.flatMap_cons, List.length_append, ih, Oct.dg_length, List.length_cons]; omega
    rw [this, List.length_take, hul, Nat.min_eq_left hk]
  have HFL := hid hfl
  have HUB := hid hub
  clear hat hfl hub
  go_enter Try.func58, Try.ntmps58
  go_wp2_with fail
  go_loopw [6, 7] (fun s6 s7 wr => ∃ k : Nat, k ≤ 4 ∧ s7 = .int .i64 k ∧ Hid (Below W.heap.size W wr) ∧ Hid (wr.ownsRow W.heap.size 33 1 s6 k (u64s (us.take k)))) (fun _ i _ => 4 - (intOf i).toNat)
  case atStart => exact ⟨0, by omega, rfl, hid (Below.refl _ _), hid (World.ownsRow_nil _ _ _ _)⟩
  case round =>
    obtain ⟨k, hk, rfl, HB, HO⟩ := hrel
    by_cases hk4 : k < 4
    · have hku : k < us.length := by omega
      have hx := flat_at HAT.out hku
      rw [HFL.out k hk] at hx
      have hn := HUB.out us[k] (List.getElem_mem hku)
      have hg := get8 hn hx
      have X := hid (C01.rget_any s ((at_ + 8 * k : Nat) : Int) 8 wr (by omega) (by omega))
      rw [hg] at X
      have HS : Hid (u64s (us.take (k + 1)) = u64s (us.take k) ++ [.int .u64 (us[k] : Nat)]) := hid (by
        unfold u64s
        rw [List.take_succ_eq_append_getElem hku, List.map_append]; rfl)
      have q1 : IntKind.i64.wrap (8 * (k : Int)) = ((8 * k : Nat) : Int) := by rw [IntWalk.i64_in _ (by omega)]; omega
      have q2 : IntKind.i64.wrap ((at_ : Int) + ((8 * k : Nat) : Int)) = ((at_ + 8 * k : Nat) : Int) := by rw [IntWalk.i64_in _ (by omega)]; omega
      obtain ⟨d, hd⟩ : ∃ d, d = 8 * k := ⟨_, rfl⟩
      rw [← hd] at q1 q2 X
      obtain ⟨d2, hd2⟩ : ∃ d2, d2 = at_ + d := ⟨_, rfl⟩
      rw [← hd2] at q2 X
      have hsz := HB.out.size
      have h63 : k + 1 ≤ maxLen := by unfold maxLen; omega
      have hby : (k + 1) * 8 ≤ 140737488355328 := by omega
      clear hx hn hg hd hd2
      generalize us[k] = n at X HS
      go_wp2_with fail
      refine X.out.mono ?_
      rintro e w' ⟨rfl, rfl⟩
      go_wp2_with (at_builtin; refine wpList_push elem64 rfl _ _ rfl W.heap.size _ _ _ [.int .u64 (n : Int)] rfl HO.out rfl rfl rfl (by simp [Value.oneCell']) h63 hby hsz ?_)
      intro v2 w2 hown2 hb2
      have HB2 := hid (HB.out.trans hb2)
      rw [← HS.out] at hown2
      have HO2 := hid hown2
      clear hown2 hb2 HO
      go_wp2_with fail
      go_roundw
      case rel => exact ⟨k + 1, by omega, by go_num, HB2, HO2⟩
      case measure => simp [intOf]; omega
    · obtain rfl : k = 4 := by omega
      have hown := HO.out
      rw [List.take_of_length_le (by omega)] at hown
      obtain ⟨a, c, rfl⟩ := owns_form hown
      have HO2 := hid hown
      clear hown HO
      go_wp2_with fail
      go_ret2
      exact ⟨a, c, rfl, HB.out, HO2⟩
def SmQ (W : World) (nx m : Nat) (ns : List Nat) (e : Ending) (w' : World) : Prop := ∃ a c, e = .returned (.tuple #[.slice a m c, .int .i64 nx, .int .i64 0]) ∧ Below W.heap.size W w' ∧ Hid (w'.ownsRow W.heap.size 3 1 (.slice a m c) m (i64s ns))
set_option maxRecDepth 100000 in
set_option maxHeartbeats 4000000 in
theorem small_any (s : ByteArray) (at_ m : Nat) (ns : List Nat) (W : World) (hs : s.size ≤ 1000000000000) (hnl : ns.length = m) (hm : m ≤ 10) (hnb : ∀ n ∈ ns, n ≤ 1099511627776) (hat : AtB s at_ (ns.flatMap vl)) (hr : at_ ≤ s.size) :
    Calls Try.prog 60 #[.string s, .int .i64 at_, .int .i64 m] W (SmQ W (at_ + (ns.flatMap vl).length) m ns) := by
  have HAT := hid hat
  have HNB := hid hnb
  have hroom := hat.room hr
  obtain ⟨nx, hnx⟩ : ∃ nx, nx = at_ + (ns.flatMap vl).length := ⟨_, rfl⟩
  rw [← hnx] at hroom ⊢
  have HNXX := hid hnx
  clear hat hnb hnx
  go_enter Try.func60, Try.ntmps60
  go_wp2_with fail
  go_loopw [1, 9, 10] (fun s1 s9 s10 wr => ∃ k : Nat, k ≤ m ∧ s10 = .int .i64 k ∧ s1 = .int .i64 (at_ + ((ns.take k).flatMap vl).length : Nat) ∧ Hid (Below W.heap.size W wr) ∧ Hid (wr.ownsRow W.heap.size 3 1 s9 k (i64s (ns.take k)))) (fun _ _ i _ => m - (intOf i).toNat)
  case atStart => exact ⟨0, by omega, rfl, by simp, hid (Below.refl _ _), hid (World.ownsRow_nil _ _ _ _)⟩
  case round =>
    obtain ⟨k, hk, rfl, rfl, HB, HO⟩ := hrel
    by_cases hk4 : k < m
    · have hku : k < ns.length := by omega
      have hx := flat_at HAT.out hku
      have hn := HNB.out ns[k] (List.getElem_mem hku)
      have X := hid (number_any s (at_ + ((ns.take k).flatMap vl).length) ns[k] 1099511627776 wr hs (by omega) hn (by omega) hx)
      have HS : Hid (i64s (ns.take (k + 1)) = i64s (ns.take k) ++ [.int .i64 (ns[k] : Nat)]) := hid (by
        unfold i64s
        rw [List.take_succ_eq_append_getElem hku, List.map_append]; rfl)
      have HNX : Hid (at_ + ((ns.take (k + 1)).flatMap vl).length = at_ + ((ns.take k).flatMap vl).length + (vl ns[k]).length) := hid (by
        rw [List.take_succ_eq_append_getElem hku, List.flatMap_append, List.length_append]; simp; omega)
      have hsz := HB.out.size
      have h63 : k + 1 ≤ maxLen := by unfold maxLen; omega
      have hby : (k + 1) * 8 ≤ 140737488355328 := by omega
      clear hx hn
      generalize ns[k] = n at X HS HNX
      generalize at_ + ((ns.take k).flatMap vl).length = ax at X HNX ⊢
      generalize ax + (vl n).length = ny at X HNX
      go_wp2_with fail
      refine X.out.mono ?_
      rintro e w' ⟨rfl, rfl⟩
      go_wp2_with (at_builtin; refine wpList_push elemI rfl _ _ rfl W.heap.size _ _ _ [.int .i64 (n : Int)] rfl HO.out rfl rfl rfl (by simp [Value.oneCell']) h63 hby hsz ?_)
      intro v2 w2 hown2 hb2
      have HB2 := hid (HB.out.trans hb2)
      rw [← HS.out] at hown2
      have HO2 := hid hown2
      clear hown2 hb2 HO
      go_wp2_with fail
      go_roundw
      case rel => exact ⟨k + 1, by omega, by go_num, by rw [HNX.out], HB2, HO2⟩
      case measure => simp [intOf]; omega
    · obtain rfl : k = m := by omega
      have hown := HO.out
      rw [List.take_of_length_le (by omega)] at hown
      obtain ⟨a, c, rfl⟩ := owns_form hown
      have HO2 := hid hown
      have HT : Hid (at_ + ((ns.take k).flatMap vl).length = nx) := hid (by rw [List.take_of_length_le (by omega), HNXX.out])
      rw [HT.out]
      clear hown HO
      go_wp2_with fail
      go_ret3
      exact ⟨a, c, rfl, HB.out, HO2⟩
end C09
end Go.Proofs.Ytcohcanakicmpaa
namespace Go.Proofs.Ytcohcanakicmpaa
open Go.RowKit Go.Peri
namespace C09
open C01 (ofNats)
open C02 (toN toN_len toN_cat toN_of toN_vB vB vB_le)
open C25 (blk11)
open Vi (vl AtB)
theorem dg_lt (n : Nat) : ∀ d ∈ Oct.dg 256 n 8, d < 256 := Oct.dg_lt 256 n (by decide) 8
/-- The bytes, as numbers. -/
theorem spN (x : Sp) : toN (spW x) = [x.hi, x.lo, x.id, x.up].flatMap (fun n => Oct.dg 256 n 8) ++ ((vl x.name.size ++ toN x.name) ++ ([x.status.toNat, x.seq.toNat, x.kids.toNat].flatMap vl ++ ([shN x.shadow] ++ [x.start.toNat, (x.stop - x.start).toNat].flatMap vl))) := by
  unfold spW e8
  simp only [toN_cat, toN_vB, toN_of (dg_lt _), toN_of (show ∀ d ∈ [shN x.shadow], d < 256 from fun d hd => by have := shN_le x.shadow; simp at hd; omega), List.flatMap_cons, List.flatMap_nil, List.append_nil, List.append_assoc]
def RdQ (W : World) (x : Sp) (nx : Nat) (e : Ending) (w' : World) : Prop := e = .returned (.tuple #[.agg #[.int .u64 x.hi, .int .u64 x.lo, .int .u64 x.id, .int .u64 x.up, .string x.name, .int .i64 x.status, .int .i64 x.seq, .int .i64 x.kids, .bool x.shadow, .int .i64 x.start, .int .i64 x.stop], .int .i64 nx, .int .i64 0]) ∧ Below W.heap.size W w'
theorem own_cell {W : World} {base e k : Nat} {a : Option Addr} {n c : Nat} {xs : List Value} (h : W.ownsRow base e 1 (.slice a n c) n xs) (hk : 0 < n) : ∃ g, a = some ⟨g, 0, none⟩ ∧ base ≤ g ∧ g < W.heap.size ∧ n ≤ c ∧ ∀ i (hi : i < xs.length), W.cell? ⟨g, i, none⟩ = some xs[i] := by
  have hx := h
  obtain ⟨h1, h2⟩ := h
  rcases h2 with ⟨_, h0⟩ | ⟨g, cp, cur, e, hb, hg, hnc, _⟩
  · omega
  cases e
  exact ⟨g, rfl, hb, (Array.getElem?_eq_some_iff.1 hg).1, hnc, fun i hi => by rw [hx.cellAt i (by omega), List.getElem?_eq_getElem hi]⟩
set_option maxRecDepth 100000 in
set_option maxHeartbeats 8000000 in
theorem rread_any (s : ByteArray) (at_ : Nat) (x : Sp) (W : World) (hs : s.size ≤ 1000000000000) (hx : x.Wf) (hr : chS x = 0) (hat : AtB s at_ (toN (spW x))) :
    Calls Try.prog 31 #[.string s, .int .i64 at_] W (RdQ W x (at_ + (spW x).size)) := by
  have G := good_of hr
  have h1 := G.name
  have XC := hid (fun w => rscheck_any x 0 w hx hr)
  rw [spN] at hat
  have hsz : (spW x).size = 32 + ((vl x.name.size).length + x.name.size) + ([x.status.toNat, x.seq.toNat, x.kids.toNat].flatMap vl).length + 1 + ([x.start.toNat, (x.stop - x.start).toNat].flatMap vl).length := by
    rw [← toN_len, spN]
    simp only [List.length_append, toN_len, List.flatMap_cons, List.flatMap_nil, Oct.dg_length, List.length_nil, List.length_cons]
    omega
  have hl1 : ([x.hi, x.lo, x.id, x.up].flatMap (fun n => Oct.dg 256 n 8)).length = 32 := by simp [List.flatMap_cons, Oct.dg_length]
  have a1 := hat.left
  have a2 := hat.right
  rw [hl1] at a2
  have a3 := a2.right
  have a2' := a2.left
  have a4 := a3.right
  have a3' := a3.left
  have a5 := a4.right
  have a4' := a4.left
  rw [List.length_append, toN_len] at a3 a3' a4 a4' a5
  obtain ⟨hb1, -⟩ := a1 0 (by omega)
  have hroom := hat.room (by omega)
  rw [← spN, toN_len] at hroom
  obtain ⟨n1, hn1⟩ : ∃ n, n = at_ + 32 + ((vl x.name.size).length + x.name.size) := ⟨_, rfl⟩
  rw [← hn1] at a3 a3' a4 a4' a5
  obtain ⟨n2, hn2⟩ : ∃ n, n = n1 + ([x.status.toNat, x.seq.toNat, x.kids.toNat].flatMap vl).length := ⟨_, rfl⟩
  rw [← hn2] at a4 a4' a5
  have hln : ([shN x.shadow] : List Nat).length = 1 := rfl
  rw [hln] at a5
  obtain ⟨n3, hn3⟩ : ∃ n, n = n2 + 1 + ([x.start.toNat, (x.stop - x.start).toNat].flatMap vl).length := ⟨_, rfl⟩
  have hn3' : at_ + (spW x).size = n3 := by omega
  rw [hn3']
  have g1 := G.status
  have g2 := G.seq
  have g3 := G.kids
  have g4 := G.start
  have g5 := G.stop
  have XF := hid (fun w => fixed_any s at_ [x.hi, x.lo, x.id, x.up] w hs rfl (by have b1 := hx.hi; have b2 := hx.lo; have b3 := hx.id; have b4 := hx.up; unfold Sp.U64 at b1 b2 b3 b4; simp; omega) a1 (by omega))
  have XT := hid (fun w => C02.rtake_any s x.name (at_ + 32) w hs h1 a2')
  rw [show at_ + 32 + (vl x.name.size).length + x.name.size = n1 by omega] at XT
  have XS := hid (fun w => small_any s n1 3 [x.status.toNat, x.seq.toNat, x.kids.toNat] w hs rfl (by decide) (by simp; omega) a3' (by omega))
  rw [← hn2] at XS
  have XU := hid (fun w => small_any s (n2 + 1) 2 [x.start.toNat, (x.stop - x.start).toNat] w hs rfl (by decide) (by simp; omega) a5 (by omega))
  rw [← hn3] at XU
  obtain ⟨hk2, hv2⟩ := a4' 0 (by simp)
  simp only [Nat.add_zero, List.getElem_cons_zero] at hk2 hv2
  have r1 : ¬ (s.size : Int) < (at_ : Int) := by omega
  have r2 : IntKind.i64.wrap ((at_ : Int) + 32) = ((at_ + 32 : Nat) : Int) := by rw [IntWalk.i64_in _ (by omega)]; omega
  have r3 : ¬ (s.size : Int) ≤ (n2 : Int) := by omega
  have r4 : IntKind.i64.wrap ((n2 : Int) + 1) = ((n2 + 1 : Nat) : Int) := by rw [IntWalk.i64_in _ (by omega)]; omega
  have hsh := shN_le x.shadow
  obtain ⟨m32, hm32⟩ : ∃ m, m = at_ + 32 := ⟨_, rfl⟩
  rw [← hm32] at r2 XT
  obtain ⟨m21, hm21⟩ : ∃ m, m = n2 + 1 := ⟨_, rfl⟩
  rw [← hm21] at r4 XU
  obtain ⟨hi, lo, id_, up, name, status, seq, kids, shadow, start, stop⟩ := x
  dsimp only at *
  obtain ⟨st, rfl⟩ : ∃ n : Nat, status = n := ⟨status.toNat, by omega⟩
  obtain ⟨sq, rfl⟩ : ∃ n : Nat, seq = n := ⟨seq.toNat, by omega⟩
  obtain ⟨kd, rfl⟩ : ∃ n : Nat, kids = n := ⟨kids.toNat, by omega⟩
  obtain ⟨sa, rfl⟩ : ∃ n : Nat, start = n := ⟨start.toNat, by omega⟩
  obtain ⟨so, rfl⟩ : ∃ n : Nat, stop = n := ⟨stop.toNat, by omega⟩
  obtain ⟨du, hdu⟩ : ∃ n : Nat, n = ((so : Int) - (sa : Int)).toNat := ⟨_, rfl⟩
  rw [← hdu] at XU
  simp only [Int.toNat_natCast] at XS XU
  have r5 : IntKind.i64.wrap ((sa : Int) + (du : Int)) = (so : Int) := by rw [IntWalk.i64_in _ (by omega)]; omega
  have r6' : ¬ (1 : Int) < ((shN shadow : Nat) : Int) := by omega
  have r7' : (((shN shadow : Nat) : Int) == 1) = shadow := by cases shadow <;> rfl
  generalize shN shadow = shn at hv2 r6' r7'
  clear hat a1 a2 a3 a4 a5 a2' a3' a4' hn1 hn2 hn3 hn3' hm32 hm21 hb1 hroom hsz hl1 hln g1 g2 g3 g4 g5 h1 G hx hr hdu hsh
  go_enter Try.func31, Try.ntmps31
  go_upto_region 1 with fail
  refine wp_genS ?_
  intro w1 hw1
  have hb1 : Below W.heap.size W w1 := by rw [hw1]; go_grown
  have hk1 : Blk w1 W.heap.size #[.int .u64 0, .int .u64 0, .int .u64 0, .int .u64 0, .string ⟨#[]⟩, .int .i64 0, .int .i64 0, .int .i64 0, .bool false, .int .i64 0, .int .i64 0] 37 := by rw [hw1]; exact Blk.new _ _ _
  clear hw1
  have HB1 := hid hb1
  have HK1 := hid hk1
  clear hb1 hk1
  go_wp2_with fail
  refine (XF.out _).mono ?_
  rintro e w2 ⟨fa, fc, rfl, hb2, hf2⟩
  have HB2 := hid (HB1.out.trans (hb2.mono HB1.out.size))
  have HK2 := hid (HK1.out.later hb2)
  have HF2 := hf2
  clear hb2 hf2 XF
  go_wp2_with fail
  refine (XT.out _).mono ?_
  rintro e w3 ⟨rfl, rfl⟩
  go_wp2_with fail
  refine (XS.out _).mono ?_
  rintro e w4 ⟨ga, gc, rfl, hb4, hs4⟩
  have HB4 := hid (HB2.out.trans (hb4.mono HB2.out.size))
  have HK4 := hid (HK2.out.later hb4)
  have HF4 := hid (Gen.owns_below HF2.out hb4)
  have HS4 := hs4
  clear hb4 hs4 XS XT
  go_wp2_with fail
  refine (XU.out _).mono ?_
  rintro e w5 ⟨ha, hc, rfl, hb5, hs5⟩
  have HB5 := hid (HB4.out.trans (hb5.mono HB4.out.size))
  have HK5 := hid (HK4.out.later hb5)
  obtain ⟨f1, rfl, _, hfl, hfc, hfx⟩ := own_cell (k := 0) (Gen.owns_below HF4.out hb5) (by decide)
  obtain ⟨f2, rfl, _, hgl, hgc, hgx⟩ := own_cell (k := 0) (Gen.owns_below HS4.out hb5) (by decide)
  obtain ⟨f3, rfl, _, hhl, hhc, hhx⟩ := own_cell (k := 0) hs5.out (by decide)
  have i0 := hfx 0 (by simp [u64s])
  have i1 := hfx 1 (by simp [u64s])
  have i2 := hfx 2 (by simp [u64s])
  have i3 := hfx 3 (by simp [u64s])
  have j0 := hgx 0 (by simp [i64s])
  have j1 := hgx 1 (by simp [i64s])
  have j2 := hgx 2 (by simp [i64s])
  have k0 := hhx 0 (by simp [i64s])
  have k1 := hhx 1 (by simp [i64s])
  simp only [u64s, i64s, List.map_cons, List.map_nil, List.getElem_cons_zero, List.getElem_cons_succ] at i0 i1 i2 i3 j0 j1 j2 k0 k1
  have KEEP : Hid (∀ w', Below w5.heap.size w5 w' → w'.cell? ⟨f1, 0, none⟩ = some (.int .u64 hi) ∧ w'.cell? ⟨f1, 1, none⟩ = some (.int .u64 lo) ∧ w'.cell? ⟨f1, 2, none⟩ = some (.int .u64 id_) ∧ w'.cell? ⟨f1, 3, none⟩ = some (.int .u64 up) ∧ w'.cell? ⟨f2, 0, none⟩ = some (.int .i64 st) ∧ w'.cell? ⟨f2, 1, none⟩ = some (.int .i64 sq) ∧ w'.cell? ⟨f2, 2, none⟩ = some (.int .i64 kd) ∧ w'.cell? ⟨f3, 0, none⟩ = some (.int .i64 sa) ∧ w'.cell? ⟨f3, 1, none⟩ = some (.int .i64 du)) := hid (fun w' hb => ⟨(hb.cell (p := ⟨f1, 0, none⟩) hfl).trans i0, (hb.cell (p := ⟨f1, 1, none⟩) hfl).trans i1, (hb.cell (p := ⟨f1, 2, none⟩) hfl).trans i2, (hb.cell (p := ⟨f1, 3, none⟩) hfl).trans i3, (hb.cell (p := ⟨f2, 0, none⟩) hgl).trans j0, (hb.cell (p := ⟨f2, 1, none⟩) hgl).trans j1, (hb.cell (p := ⟨f2, 2, none⟩) hgl).trans j2, (hb.cell (p := ⟨f3, 0, none⟩) hhl).trans k0, (hb.cell (p := ⟨f3, 1, none⟩) hhl).trans k1⟩)
  have HNEW : Hid (∀ w6, w6 = (w5.alloc (.cells #[.int .u64 hi, .int .u64 lo, .int .u64 id_, .int .u64 up, .string name, .int .i64 st, .int .i64 sq, .int .i64 kd, .bool shadow, .int .i64 sa, .int .i64 so] 37)).drew → Below W.heap.size W w6 ∧ Blk w6 W.heap.size #[.int .u64 0, .int .u64 0, .int .u64 0, .int .u64 0, .string ⟨#[]⟩, .int .i64 0, .int .i64 0, .int .i64 0, .bool false, .int .i64 0, .int .i64 0] 37 ∧ Blk w6 w5.heap.size #[.int .u64 hi, .int .u64 lo, .int .u64 id_, .int .u64 up, .string name, .int .i64 st, .int .i64 sq, .int .i64 kd, .bool shadow, .int .i64 sa, .int .i64 so] 37) := hid (fun w6 hw6 => by
    rw [hw6]
    exact ⟨(HB5.out.alloc HB5.out.size _).drew, (HK5.out.alloc _).drew, (Blk.new _ _ _).drew⟩)
  clear hb5 hs5 hfx hgx hhx HF2 HF4 HS4 HK1 HK2 HK4 HB1 HB2 HB4 XU
  go_wp2_with fail
  refine wp_region_held_drew (S := (fun w' => w'.cell? ⟨f1, 0, none⟩ = some (.int .u64 hi) ∧ w'.cell? ⟨f1, 1, none⟩ = some (.int .u64 lo) ∧ w'.cell? ⟨f1, 2, none⟩ = some (.int .u64 id_) ∧ w'.cell? ⟨f1, 3, none⟩ = some (.int .u64 up) ∧ w'.cell? ⟨f2, 0, none⟩ = some (.int .i64 st) ∧ w'.cell? ⟨f2, 1, none⟩ = some (.int .i64 sq) ∧ w'.cell? ⟨f2, 2, none⟩ = some (.int .i64 kd) ∧ w'.cell? ⟨f3, 0, none⟩ = some (.int .i64 sa) ∧ w'.cell? ⟨f3, 1, none⟩ = some (.int .i64 du))) (by kernel_rfl) (by (refine KEEP.out _ ?_; (repeat' (first | assumption | (with_reducible exact Below.refl _ _) | (with_reducible refine Below.drew ?_) | (with_reducible refine Below.alloc ?_ (by first | exact Nat.le_refl _ | (exact Below.size (by assumption)) | (simp; done) | (simp; omega)) _))))) (fun hHeld => ?_)
  refine wpAnyH_take (i := 0) (oi := ⟨_, _, _, _, _, _⟩) (v := ?_) rfl (by kernel_rfl) (by kernel_rfl) (by kernel_rfl) (fun _ _ _ h => h) (Or.inl ⟨by rfl, ?_⟩) hHeld ?_
  rotate_left
  · (intro w hSw; (try dsimp only at hSw); go_simp) <;> with_reducible rfl
  try simp only [Act.put, List.setIfInBounds_toArray, List.set_cons_zero, List.set_cons_succ]
  refine wpAnyH_take (i := 1) (oi := ⟨_, _, _, _, _, _⟩) (v := ?_) rfl (by kernel_rfl) (by kernel_rfl) (by kernel_rfl) (fun _ _ _ h => h) (Or.inl ⟨by rfl, ?_⟩) hHeld ?_
  rotate_left
  · (intro w hSw; (try dsimp only at hSw); go_simp) <;> with_reducible rfl
  try simp only [Act.put, List.setIfInBounds_toArray, List.set_cons_zero, List.set_cons_succ]
  refine wpAnyH_take (i := 2) (oi := ⟨_, _, _, _, _, _⟩) (v := ?_) rfl (by kernel_rfl) (by kernel_rfl) (by kernel_rfl) (fun _ _ _ h => h) (Or.inl ⟨by rfl, ?_⟩) hHeld ?_
  rotate_left
  · (intro w hSw; (try dsimp only at hSw); go_simp) <;> with_reducible rfl
  try simp only [Act.put, List.setIfInBounds_toArray, List.set_cons_zero, List.set_cons_succ]
  refine wpAnyH_take (i := 3) (oi := ⟨_, _, _, _, _, _⟩) (v := ?_) rfl (by kernel_rfl) (by kernel_rfl) (by kernel_rfl) (fun _ _ _ h => h) (Or.inl ⟨by rfl, ?_⟩) hHeld ?_
  rotate_left
  · (intro w hSw; (try dsimp only at hSw); go_simp) <;> with_reducible rfl
  try simp only [Act.put, List.setIfInBounds_toArray, List.set_cons_zero, List.set_cons_succ]
  refine wpAnyH_take (i := 4) (oi := ⟨_, _, _, _, _, _⟩) (v := ?_) rfl (by kernel_rfl) (by kernel_rfl) (by kernel_rfl) (fun _ _ _ h => h) (Or.inl ⟨by rfl, ?_⟩) hHeld ?_
  rotate_left
  · (intro w hSw; (try dsimp only at hSw); go_simp) <;> with_reducible rfl
  try simp only [Act.put, List.setIfInBounds_toArray, List.set_cons_zero, List.set_cons_succ]
  refine wpAnyH_take (i := 5) (oi := ⟨_, _, _, _, _, _⟩) (v := ?_) rfl (by kernel_rfl) (by kernel_rfl) (by kernel_rfl) (fun _ _ _ h => h) (Or.inl ⟨by rfl, ?_⟩) hHeld ?_
  rotate_left
  · (intro w hSw; (try dsimp only at hSw); go_simp) <;> with_reducible rfl
  try simp only [Act.put, List.setIfInBounds_toArray, List.set_cons_zero, List.set_cons_succ]
  refine wpAnyH_take (i := 6) (oi := ⟨_, _, _, _, _, _⟩) (v := ?_) rfl (by kernel_rfl) (by kernel_rfl) (by kernel_rfl) (fun _ _ _ h => h) (Or.inl ⟨by rfl, ?_⟩) hHeld ?_
  rotate_left
  · (intro w hSw; (try dsimp only at hSw); go_simp) <;> with_reducible rfl
  try simp only [Act.put, List.setIfInBounds_toArray, List.set_cons_zero, List.set_cons_succ]
  refine wpAnyH_take (i := 7) (oi := ⟨_, _, _, _, _, _⟩) (v := ?_) rfl (by kernel_rfl) (by kernel_rfl) (by kernel_rfl) (fun _ _ _ h => h) (Or.inl ⟨by rfl, ?_⟩) hHeld ?_
  rotate_left
  · (intro w hSw; (try dsimp only at hSw); go_simp) <;> with_reducible rfl
  try simp only [Act.put, List.setIfInBounds_toArray, List.set_cons_zero, List.set_cons_succ]
  refine wpAnyH_take (i := 8) (oi := ⟨_, _, _, _, _, _⟩) (v := ?_) rfl (by kernel_rfl) (by kernel_rfl) (by kernel_rfl) (fun _ _ _ h => h) (Or.inl ⟨by rfl, ?_⟩) hHeld ?_
  rotate_left
  · (intro w hSw; (try dsimp only at hSw); go_simp) <;> with_reducible rfl
  try simp only [Act.put, List.setIfInBounds_toArray, List.set_cons_zero, List.set_cons_succ]
  refine wpAnyH_take (i := 9) (oi := ⟨_, _, _, _, _, _⟩) (v := ?_) rfl (by kernel_rfl) (by kernel_rfl) (by kernel_rfl) (fun _ _ _ h => h) (Or.inl ⟨by rfl, ?_⟩) hHeld ?_
  rotate_left
  · (intro w hSw; (try dsimp only at hSw); go_simp) <;> with_reducible rfl
  try simp only [Act.put, List.setIfInBounds_toArray, List.set_cons_zero, List.set_cons_succ]
  refine wpAnyH_take (i := 10) (oi := ⟨_, _, _, _, _, _⟩) (v := ?_) rfl (by kernel_rfl) (by kernel_rfl) (by kernel_rfl) (fun _ _ _ h => h) (Or.inl ⟨by rfl, ?_⟩) hHeld ?_
  rotate_left
  · (intro w hSw; (try dsimp only at hSw); go_simp) <;> with_reducible rfl
  try simp only [Act.put, List.setIfInBounds_toArray, List.set_cons_zero, List.set_cons_succ]
  refine wpAnyH_take (i := 11) (oi := ⟨_, _, _, _, _, _⟩) (v := ?_) rfl (by kernel_rfl) (by kernel_rfl) (by kernel_rfl) (fun _ _ _ h => h) (Or.inl ⟨by rfl, ?_⟩) hHeld ?_
  rotate_left
  · (intro w hSw; (try dsimp only at hSw); go_simp) <;> with_reducible rfl
  try simp only [Act.put, List.setIfInBounds_toArray, List.set_cons_zero, List.set_cons_succ]
  refine wpAnyH_take (i := 12) (oi := ⟨_, _, _, _, _, _⟩) (v := ?_) rfl (by kernel_rfl) (by kernel_rfl) (by kernel_rfl) (fun _ _ _ h => h) (Or.inl ⟨by rfl, ?_⟩) hHeld ?_
  rotate_left
  · (intro w hSw; (try dsimp only at hSw); go_simp) <;> with_reducible rfl
  try simp only [Act.put, List.setIfInBounds_toArray, List.set_cons_zero, List.set_cons_succ]
  refine wpAnyH_take (i := 13) (oi := ⟨_, _, _, _, _, _⟩) (v := ?_) rfl (by kernel_rfl) (by kernel_rfl) (by kernel_rfl) (fun _ _ _ h => h) (Or.inl ⟨by rfl, ?_⟩) hHeld ?_
  rotate_left
  · (intro w hSw; (try dsimp only at hSw); go_simp) <;> with_reducible rfl
  try simp only [Act.put, List.setIfInBounds_toArray, List.set_cons_zero, List.set_cons_succ]
  refine wpAnyH_take (i := 14) (oi := ⟨_, _, _, _, _, _⟩) (v := ?_) rfl (by kernel_rfl) (by kernel_rfl) (by kernel_rfl) (fun _ _ _ h => h) (Or.inl ⟨by rfl, ?_⟩) hHeld ?_
  rotate_left
  · (intro w hSw; (try dsimp only at hSw); go_simp) <;> with_reducible rfl
  try simp only [Act.put, List.setIfInBounds_toArray, List.set_cons_zero, List.set_cons_succ]
  refine wpAnyH_take (i := 15) (oi := ⟨_, _, _, _, _, _⟩) (v := ?_) rfl (by kernel_rfl) (by kernel_rfl) (by kernel_rfl) (fun _ _ _ h => h) (Or.inl ⟨by rfl, ?_⟩) hHeld ?_
  rotate_left
  · (intro w hSw; (try dsimp only at hSw); go_simp) <;> with_reducible rfl
  try simp only [Act.put, List.setIfInBounds_toArray, List.set_cons_zero, List.set_cons_succ]
  refine wpAnyH_take (i := 16) (oi := ⟨_, _, _, _, _, _⟩) (v := ?_) rfl (by kernel_rfl) (by kernel_rfl) (by kernel_rfl) (fun _ _ _ h => h) (Or.inl ⟨by rfl, ?_⟩) hHeld ?_
  rotate_left
  · (intro w hSw; (try dsimp only at hSw); go_simp) <;> with_reducible rfl
  try simp only [Act.put, List.setIfInBounds_toArray, List.set_cons_zero, List.set_cons_succ]
  refine wpAnyH_take (i := 17) (oi := ⟨_, _, _, _, _, _⟩) (v := ?_) rfl (by kernel_rfl) (by kernel_rfl) (by kernel_rfl) (fun _ _ _ h => h) (Or.inl ⟨by rfl, ?_⟩) hHeld ?_
  rotate_left
  · (intro w hSw; (try dsimp only at hSw); go_simp) <;> with_reducible rfl
  try simp only [Act.put, List.setIfInBounds_toArray, List.set_cons_zero, List.set_cons_succ]
  refine wpAnyH_take (i := 18) (oi := ⟨_, _, _, _, _, _⟩) (v := ?_) rfl (by kernel_rfl) (by kernel_rfl) (by kernel_rfl) (fun _ _ _ h => h) (Or.inl ⟨by rfl, ?_⟩) hHeld ?_
  rotate_left
  · (intro w hSw; (try dsimp only at hSw); go_simp) <;> with_reducible rfl
  try simp only [Act.put, List.setIfInBounds_toArray, List.set_cons_zero, List.set_cons_succ]
  refine wpAnyH_take (i := 19) (oi := ⟨_, _, _, _, _, _⟩) (v := ?_) rfl (by kernel_rfl) (by kernel_rfl) (by kernel_rfl) (fun _ _ _ h => h) (Or.inl ⟨by rfl, ?_⟩) hHeld ?_
  rotate_left
  · (intro w hSw; (try dsimp only at hSw); go_simp) <;> with_reducible rfl
  try simp only [Act.put, List.setIfInBounds_toArray, List.set_cons_zero, List.set_cons_succ]
  refine wpAnyH_take (i := 20) (oi := ⟨_, _, _, _, _, _⟩) (v := ?_) rfl (by kernel_rfl) (by kernel_rfl) (by kernel_rfl) (fun _ _ _ h => h) (Or.inl ⟨by rfl, ?_⟩) hHeld ?_
  rotate_left
  · (intro w hSw; (try dsimp only at hSw); go_simp) <;> with_reducible rfl
  try simp only [Act.put, List.setIfInBounds_toArray, List.set_cons_zero, List.set_cons_succ]
  refine wpAnyH_take (i := 21) (oi := ⟨_, _, _, _, _, _⟩) (v := ?_) rfl (by kernel_rfl) (by kernel_rfl) (by kernel_rfl) (fun _ _ _ h => h) (Or.inl ⟨by rfl, ?_⟩) hHeld ?_
  rotate_left
  · (intro w hSw; (try dsimp only at hSw); go_simp) <;> with_reducible rfl
  try simp only [Act.put, List.setIfInBounds_toArray, List.set_cons_zero, List.set_cons_succ]
  refine wpAnyH_take (i := 22) (oi := ⟨_, _, _, _, _, _⟩) (v := ?_) rfl (by kernel_rfl) (by kernel_rfl) (by kernel_rfl) (fun _ _ _ h => h) (Or.inl ⟨by rfl, ?_⟩) hHeld ?_
  rotate_left
  · (intro w hSw; (try dsimp only at hSw); go_simp) <;> with_reducible rfl
  try simp only [Act.put, List.setIfInBounds_toArray, List.set_cons_zero, List.set_cons_succ]
  refine wpAnyH_take (i := 23) (oi := ⟨_, _, _, _, _, _⟩) (v := ?_) rfl (by kernel_rfl) (by kernel_rfl) (by kernel_rfl) (fun _ _ _ h => h) (Or.inl ⟨by rfl, ?_⟩) hHeld ?_
  rotate_left
  · (intro w hSw; (try dsimp only at hSw); go_simp) <;> with_reducible rfl
  try simp only [Act.put, List.setIfInBounds_toArray, List.set_cons_zero, List.set_cons_succ]
  refine wpAnyH_take (i := 24) (oi := ⟨_, _, _, _, _, _⟩) (v := ?_) rfl (by kernel_rfl) (by kernel_rfl) (by kernel_rfl) (fun _ _ _ h => h) (Or.inl ⟨by rfl, ?_⟩) hHeld ?_
  rotate_left
  · (intro w hSw; (try dsimp only at hSw); go_simp) <;> with_reducible rfl
  try simp only [Act.put, List.setIfInBounds_toArray, List.set_cons_zero, List.set_cons_succ]
  refine wpAnyH_take (i := 25) (oi := ⟨_, _, _, _, _, _⟩) (v := ?_) rfl (by kernel_rfl) (by kernel_rfl) (by kernel_rfl) (fun _ _ _ h => h) (Or.inl ⟨by rfl, ?_⟩) hHeld ?_
  rotate_left
  · (intro w hSw; (try dsimp only at hSw); go_simp) <;> with_reducible rfl
  try simp only [Act.put, List.setIfInBounds_toArray, List.set_cons_zero, List.set_cons_succ]
  refine wpAnyH_take (i := 26) (oi := ⟨_, _, _, _, _, _⟩) (v := ?_) rfl (by kernel_rfl) (by kernel_rfl) (by kernel_rfl) (fun _ _ _ h => h) (Or.inl ⟨by rfl, ?_⟩) hHeld ?_
  rotate_left
  · (intro w hSw; (try dsimp only at hSw); go_simp) <;> with_reducible rfl
  try simp only [Act.put, List.setIfInBounds_toArray, List.set_cons_zero, List.set_cons_succ]
  refine wpAnyH_take (i := 27) (oi := ⟨_, _, _, _, _, _⟩) (v := ?_) rfl (by kernel_rfl) (by kernel_rfl) (by kernel_rfl) (fun _ _ _ h => h) (Or.inl ⟨by rfl, ?_⟩) hHeld ?_
  rotate_left
  · (intro w hSw; (try dsimp only at hSw); go_simp) <;> with_reducible rfl
  try simp only [Act.put, List.setIfInBounds_toArray, List.set_cons_zero, List.set_cons_succ]
  refine wpAnyH_take (i := 28) (oi := ⟨_, _, _, _, _, _⟩) (v := ?_) rfl (by kernel_rfl) (by kernel_rfl) (by kernel_rfl) (fun _ _ _ h => h) (Or.inl ⟨by rfl, ?_⟩) hHeld ?_
  rotate_left
  · (intro w hSw; (try dsimp only at hSw); go_simp) <;> with_reducible rfl
  try simp only [Act.put, List.setIfInBounds_toArray, List.set_cons_zero, List.set_cons_succ]
  refine wpAnyH_take (i := 29) (oi := ⟨_, _, _, _, _, _⟩) (v := ?_) rfl (by kernel_rfl) (by kernel_rfl) (by kernel_rfl) (fun _ _ _ h => h) (Or.inl ⟨by rfl, ?_⟩) hHeld ?_
  rotate_left
  · (intro w hSw; (try dsimp only at hSw); go_simp) <;> with_reducible rfl
  try simp only [Act.put, List.setIfInBounds_toArray, List.set_cons_zero, List.set_cons_succ]
  refine wpAnyH_take (i := 30) (oi := ⟨_, _, _, _, _, _⟩) (v := ?_) rfl (by kernel_rfl) (by kernel_rfl) (by kernel_rfl) (fun _ _ _ h => h) (Or.inl ⟨by rfl, ?_⟩) hHeld ?_
  rotate_left
  · (intro w hSw; (try dsimp only at hSw); go_simp) <;> with_reducible rfl
  try simp only [Act.put, List.setIfInBounds_toArray, List.set_cons_zero, List.set_cons_succ]
  refine wpAnyH_take (i := 31) (oi := ⟨_, _, _, _, _, _⟩) (v := ?_) rfl (by kernel_rfl) (by kernel_rfl) (by kernel_rfl) (fun _ _ _ h => h) (Or.inl ⟨by rfl, ?_⟩) hHeld ?_
  rotate_left
  · (intro w hSw; (try dsimp only at hSw); go_simp) <;> with_reducible rfl
  try simp only [Act.put, List.setIfInBounds_toArray, List.set_cons_zero, List.set_cons_succ]
  refine wpAnyH_take (i := 32) (oi := ⟨_, _, _, _, _, _⟩) (v := ?_) rfl (by kernel_rfl) (by kernel_rfl) (by kernel_rfl) (fun _ _ _ h => h) (Or.inl ⟨by rfl, ?_⟩) hHeld ?_
  rotate_left
  · (intro w hSw; (try dsimp only at hSw); go_simp) <;> with_reducible rfl
  try simp only [Act.put, List.setIfInBounds_toArray, List.set_cons_zero, List.set_cons_succ]
  refine wpAnyH_take (i := 33) (oi := ⟨_, _, _, _, _, _⟩) (v := ?_) rfl (by kernel_rfl) (by kernel_rfl) (by kernel_rfl) (fun _ _ _ h => h) (Or.inl ⟨by rfl, ?_⟩) hHeld ?_
  rotate_left
  · (intro w hSw; (try dsimp only at hSw); go_simp) <;> with_reducible rfl
  try simp only [Act.put, List.setIfInBounds_toArray, List.set_cons_zero, List.set_cons_succ]
  refine wpAnyH_take (i := 34) (oi := ⟨_, _, _, _, _, _⟩) (v := ?_) rfl (by kernel_rfl) (by kernel_rfl) (by kernel_rfl) (fun _ _ _ h => h) (Or.inl ⟨by rfl, ?_⟩) hHeld ?_
  rotate_left
  · (intro w hSw; (try dsimp only at hSw); go_simp) <;> with_reducible rfl
  try simp only [Act.put, List.setIfInBounds_toArray, List.set_cons_zero, List.set_cons_succ]
  refine wpAnyH_ready (rs := [35]) (by kernel_rfl) (by simp) ?_
  refine AllReadyH.cons (o := ⟨_, _, _, _, _, _⟩) rfl (fun K hK => ?_) AllReadyH.nil
  clear hHeld
  go_simp
  refine hK.out _ _ (by (refine KEEP.out _ ?_; (repeat' (first | assumption | (with_reducible exact Below.refl _ _) | (with_reducible refine Below.drew ?_) | (with_reducible refine Below.alloc ?_ (by first | exact Nat.le_refl _ | (exact Below.size (by assumption)) | (simp; done) | (simp; omega)) _))))) (fun hHeld => ?_)
  clear hK K
  try simp only [Act.put, List.setIfInBounds_toArray, List.set_cons_zero, List.set_cons_succ]
  refine wpAnyH_ready (rs := [36]) (by kernel_rfl) (by simp) ?_
  refine AllReadyH.cons (o := ⟨_, _, _, _, _, _⟩) rfl (fun K hK => ?_) AllReadyH.nil
  clear hHeld
  go_simp
  refine hK.out _ _ (by (refine KEEP.out _ ?_; (repeat' (first | assumption | (with_reducible exact Below.refl _ _) | (with_reducible refine Below.drew ?_) | (with_reducible refine Below.alloc ?_ (by first | exact Nat.le_refl _ | (exact Below.size (by assumption)) | (simp; done) | (simp; omega)) _))))) (fun hHeld => ?_)
  clear hK K
  try simp only [Act.put, List.setIfInBounds_toArray, List.set_cons_zero, List.set_cons_succ]
  refine wpAnyH_done (by kernel_rfl) ?_ _
  go_upto_region 23 with fail
  refine wp_genS ?_
  intro w6 hw6
  obtain ⟨hb6, hk6, hr6⟩ := HNEW.out w6 hw6
  have HB6 := hid hb6
  have HK6 := hid hk6
  have HR6 := hid hr6
  clear hw6 hb6 hk6 hr6 HNEW KEEP hHeld HB5 HK5 i0 i1 i2 i3 j0 j1 j2 k0 k1 hfl hgl hhl hfc hgc hhc
  obtain ⟨x0, x1, x2, x3, x4, x5, x6, x7, x8, x9, x10, -⟩ := blk11 HR6.out
  go_wp2_with fail
  refine (XC.out _).mono ?_
  rintro e w7 ⟨rfl, hb7⟩
  have HB7 := hid (HB6.out.trans (hb7.mono HB6.out.size))
  have HK7 := hid (HK6.out.later hb7)
  have HR7 := hid (HR6.out.later hb7)
  clear hb7 x0 x1 x2 x3 x4 x5 x6 x7 x8 x9 x10 XC
  obtain ⟨x0, x1, x2, x3, x4, x5, x6, x7, x8, x9, x10, -⟩ := blk11 HR7.out
  obtain ⟨y0, y1, y2, y3, y4, y5, y6, y7, y8, y9, y10, yf⟩ := blk11 HK7.out
  have hlW := HK7.out.lt
  have hlR := HR7.out.lt
  go_wp2_with fail
  refine bodyPost_ret (by simp [results, Try.results31, go_sem, y0, y1, y2, y3, y4, y5, y6, y7, y8, y9, y10]; try rfl) rfl ?_
  refine ⟨rfl, HB7.out.trans (Only.below (S := [W.heap.size]) ?_ HB7.out.size (fun b hb => by simp at hb; omega))⟩
  iterate 11 (refine Only.setCell ?_ (by simp) _)
  exact Only.refl _ _
end C09
end Go.Proofs.Ytcohcanakicmpaa
namespace Go.Proofs.Ytcohcanakicmpaa
open Go.RowKit Go.Peri
namespace C10
open C01 (ofNats ofNats_size)
open C02 (toN toN_len toN_cat toN_of toN_vB vB vB_size vB_le extract_of_at at_of)
open C03 (ba_ext ext_list ba_len ba_list openR tailR tailR_size)
open C09 (spW spW_size chS good_of fold_succ fold_size)
open C25 (blk11)
open Vi (vl AtB)
theorem open_seal (b : ByteArray) : openR (b ++ tailR b) = (b, 0) := by
  have hz := tailR_size b
  have hs : (b ++ tailR b).size = b.size + 4 := by rw [ByteArray.size_append, hz]
  have e1 : (b ++ tailR b).extract 0 ((b ++ tailR b).size - 4) = b := by
    apply ba_ext
    rw [ext_list, hs, ba_list]
    simp only [Nat.add_sub_cancel, Nat.sub_zero, List.drop_zero]
    rw [List.take_append_of_le_length (by rw [ba_len]; exact Nat.le_refl _), List.take_of_length_le (by rw [ba_len]; exact Nat.le_refl _)]
  have e2 : (b ++ tailR b).extract ((b ++ tailR b).size - 4) (b ++ tailR b).size = tailR b := by
    apply ba_ext
    rw [ext_list, hs, ba_list]
    simp only [Nat.add_sub_cancel]
    rw [List.drop_append_of_le_length (by rw [ba_len]; exact Nat.le_refl _), List.drop_eq_nil_of_le (by rw [ba_len]; exact Nat.le_refl _), List.nil_append, List.take_of_length_le (by rw [ba_len, hz]; omega)]
  unfold openR
  rw [if_neg (by omega), e1, e2, if_pos rfl]
theorem toN_fold (l : List ByteArray) : ∀ A : ByteArray, toN (l.foldl (· ++ ·) A) = toN A ++ l.flatMap toN := by
  induction l with
  | nil => intro A; simp
  | cons x l ih => intro A; rw [List.foldl_cons, ih, toN_cat, List.flatMap_cons, List.append_assoc]
theorem body_toN (node seq : Nat) (sp : List Sp) : toN (body node seq sp) = [80, 66, 1] ++ (vl node ++ (vl seq ++ (vl sp.length ++ sp.flatMap (fun x => toN (spW x))))) := by
  unfold body
  rw [toN_fold]
  simp only [toN_cat, toN_vB, List.append_assoc, List.flatMap_map]
  rfl
set_option maxRecDepth 100000 in
theorem begins_any (s : ByteArray) (W : World) (hs : s.size ≤ 1000000000000) (h3 : 3 ≤ s.size) (hx : s.extract 0 3 = hdB) : Calls Try.prog 87 #[.string s, .string ⟨#[80, 66, 1]⟩] W fun e w' => e = .returned (.bool true) ∧ W = w' := by
  have a1 : (3 : Int) ≤ (s.size : Int) := by omega
  have HX := hid hx
  have a2 : (s.extract 0 3).toList = [80, 66, 1] := by rw [hx, ByteArray.toList_eq]; rfl
  have a3 : ((s.extract 0 3).toList == [80, 66, 1]) = true := by rw [a2]; rfl
  clear hx h3
  go_enter Try.func87, Try.ntmps87
  go_wp2_with fail
  go_ret
  exact ⟨rfl, rfl⟩
set_option maxRecDepth 100000 in
theorem kind_any (s : ByteArray) (W : World) (hs : s.size ≤ 1000000000000) (h3 : 3 ≤ s.size) (hx : s.extract 0 3 = hdB) : Calls Try.prog 56 #[.string s] W fun e w' => e = .returned (.int .i64 1) ∧ W = w' := by
  have X := hid (begins_any s W hs h3 hx)
  clear hx h3
  go_enter Try.func56, Try.ntmps56
  go_wp2_with fail
  refine X.out.mono ?_
  rintro e w' ⟨rfl, rfl⟩
  go_wp2_with fail
  go_ret
  exact ⟨rfl, rfl⟩
/-- Where things stand in a batch's bytes. -/
structure Lay (b : ByteArray) (node seq : Nat) (sp : List Sp) (n1 n2 n3 : Nat) : Prop where
  size : b.size ≤ 4000
  three : 3 ≤ b.size
  head : b.extract 0 3 = hdB
  atNode : AtB b 3 (vl node)
  e1 : n1 = 3 + (vl node).length
  atSeq : AtB b n1 (vl seq)
  e2 : n2 = n1 + (vl seq).length
  many : AtB b n2 (vl sp.length)
  e3 : n3 = n2 + (vl sp.length).length
  atSp : AtB b n3 (sp.flatMap (fun x => toN (spW x)))
  room : n3 + (sp.flatMap (fun x => toN (spW x))).length = b.size
theorem lay_of {node seq : Nat} {sp : List Sp} (ok : Okb node seq sp) : ∃ n1 n2 n3, Lay (body node seq sp) node seq sp n1 n2 n3 := by
  have h := body_toN node seq sp
  have hl : (body node seq sp).size = 3 + ((vl node).length + ((vl seq).length + ((vl sp.length).length + (sp.flatMap (fun x => toN (spW x))).length))) := by
    rw [← toN_len, h]
    simp only [List.length_append]
    rfl
  have at0 : AtB (body node seq sp) 0 ([80, 66, 1] ++ (vl node ++ (vl seq ++ (vl sp.length ++ sp.flatMap (fun x => toN (spW x)))))) := at_of (pre := []) (post := []) (by rw [h]; simp)
  have a1 := at0.right
  have a2 := a1.right
  have a3 := a2.right
  have a4 := a3.right
  have hh : toN hdB = [80, 66, 1] := rfl
  have hx := extract_of_at (t := hdB) (i := 0) (by rw [hh]; exact at0.left)
  have l3 : ([80, 66, 1] : List Nat).length = 3 := rfl
  rw [l3, Nat.zero_add] at a1 a2 a3 a4
  exact ⟨_, _, _, ⟨body_size ok, by omega, hx, a1.left, rfl, a2.left, rfl, a3.left, rfl, a4, by omega⟩⟩
def FrQ (W : World) (b : ByteArray) (node seq n2 : Nat) (e : Ending) (w' : World) : Prop := ∃ g, e = .returned (.tuple #[.string b, .slice (some ⟨g, 0, none⟩) 2 2, .int .i64 n2, .int .i64 0]) ∧ Below W.heap.size W w' ∧ Hid (Blk w' g #[.int .i64 node, .int .i64 seq] 3)
set_option maxRecDepth 100000 in
set_option maxHeartbeats 4000000 in
theorem front_any {b : ByteArray} {node seq : Nat} {sp : List Sp} {n1 n2 n3 : Nat} (L : Lay b node seq sp n1 n2 n3) (h1 : node ≤ 7) (h2 : seq ≤ 1099511627776) (W : World) :
    Calls Try.prog 29 #[.string (b ++ tailR b), .int .i64 1] W (FrQ W b node seq n2) := by
  have hsz := L.size
  have XO := hid (C03.ropen_any (b ++ tailR b) W (by rw [ByteArray.size_append, tailR_size]; omega))
  rw [open_seal] at XO
  have XK := hid (fun w => kind_any b w (by omega) L.three L.head)
  have XN := hid (fun w => C09.number_any b 3 node 7 w (by omega) (by omega) h1 (by omega) L.atNode)
  rw [← L.e1] at XN
  have XS := hid (fun w => C09.number_any b n1 seq 1099511627776 w (by omega) (by omega) h2 (by omega) L.atSeq)
  rw [← L.e2] at XS
  generalize b ++ tailR b = s at XO ⊢
  clear h1 h2 L hsz
  go_enter Try.func29, Try.ntmps29
  go_wp2_with fail
  refine XO.out.mono ?_
  rintro e w1 ⟨rfl, hb1⟩
  have HB1 := hid hb1
  clear hb1 XO
  go_wp2_with fail
  refine (XK.out _).mono ?_
  rintro e w2 ⟨rfl, rfl⟩
  go_wp2_with fail
  refine (XN.out _).mono ?_
  rintro e w2 ⟨rfl, rfl⟩
  go_wp2_with fail
  refine (XS.out _).mono ?_
  rintro e w2 ⟨rfl, rfl⟩
  go_wp2_with fail
  refine bodyPost_ret (by simp [results, Try.results29, go_sem]; try rfl) rfl ?_
  exact ⟨w1.heap.size, rfl, HB1.out.alloc HB1.out.size _, hid (Blk.new _ _ _)⟩
def BrQ (W : World) (node seq : Nat) (sp : List Sp) (e : Ending) (w' : World) : Prop := ∃ a c, e = .returned (.tuple #[.agg #[.int .i64 node, .int .i64 seq, .slice a sp.length c], .int .i64 0]) ∧ Below W.heap.size W w' ∧ Hid (RowsOf (fun b => W.heap.size ≤ b ∧ b < w'.heap.size) Sp.enc 11 w' (.slice a sp.length c) sp)
theorem flat_at2 {s : ByteArray} {i k : Nat} {us : List Sp} {g : Sp → List Nat} (h : AtB s i (us.flatMap g)) (hk : k < us.length) : AtB s (i + ((us.take k).flatMap g).length) (g us[k]) := by
  have e : us.flatMap g = (us.take k).flatMap g ++ (g us[k] ++ (us.drop (k + 1)).flatMap g) := by
    conv => lhs; rw [← List.take_append_drop k us, List.drop_eq_getElem_cons hk]
    rw [List.flatMap_append, List.flatMap_cons]
  rw [e] at h
  exact h.right.left
set_option maxRecDepth 100000 in
set_option maxHeartbeats 8000000 in
theorem rbread_any (node seq : Nat) (sp : List Sp) (W : World) (ok : Okb node seq sp) :
    Calls Try.prog 11 #[.string (bW node seq sp)] W (BrQ W node seq sp) := by
  obtain ⟨n1, n2, n3, L⟩ := lay_of ok
  unfold bW
  have XF := hid (fun w => front_any L ok.node ok.seq w)
  generalize body node seq sp = b at L XF ⊢
  have hsz := L.size
  have XN := hid (fun w => C09.number_any b n2 sp.length 16 w (by omega) (by have := ok.len; omega) ok.len.2 (by omega) L.many)
  rw [← L.e3] at XN
  have HSP := hid L.atSp
  have hroom := L.room
  have hlen := ok.len
  have HOK := hid ok.sp
  have hl0 : ((sp.length : Int) == 0) = false := by rw [beq_eq_false_iff_ne]; omega
  generalize b ++ tailR b = s at XF ⊢
  clear L ok
  go_enter Try.func11, Try.ntmps11
  go_upto_region 1 with fail
  refine wp_genS ?_
  intro w1 hw1
  have hb1 : Below W.heap.size W w1 := by rw [hw1]; go_grown
  have hk1 : Blk w1 W.heap.size #[.int .i64 0, .int .i64 0, .slice none 0 0] 45 := by rw [hw1]; exact Blk.new _ _ _
  clear hw1
  have HB1 := hid hb1
  have HK1 := hid hk1
  clear hb1 hk1
  go_wp2_with fail
  refine (XF.out _).mono ?_
  rintro e w2 ⟨g, rfl, hb2, hg2⟩
  have HB2 := hid (HB1.out.trans (hb2.mono HB1.out.size))
  have HK2 := hid (HK1.out.later hb2)
  have HG2 := hg2
  clear hb2 hg2 XF HK1
  go_wp2_with fail
  refine (XN.out _).mono ?_
  rintro e w3 ⟨rfl, rfl⟩
  have i0 := HG2.out.cell 0
  have i1 := HG2.out.cell 1
  have hgl := HG2.out.lt
  simp only [List.getElem?_toArray, List.getElem?_cons_zero, List.getElem?_cons_succ] at i0 i1
  have KEEP : Hid (∀ w', Below w2.heap.size w2 w' → w'.cell? ⟨g, 0, none⟩ = some (.int .i64 node) ∧ w'.cell? ⟨g, 1, none⟩ = some (.int .i64 seq)) := hid (fun w' hb => ⟨(hb.cell (p := ⟨g, 0, none⟩) hgl).trans i0, (hb.cell (p := ⟨g, 1, none⟩) hgl).trans i1⟩)
  have HNEW : Hid (∀ w6, w6 = (w2.alloc (.cells #[.int .i64 node, .int .i64 seq, .slice none 0 0] 45)).drew → Below W.heap.size W w6 ∧ Blk w6 W.heap.size #[.int .i64 0, .int .i64 0, .slice none 0 0] 45 ∧ Blk w6 w2.heap.size #[.int .i64 node, .int .i64 seq, .slice none 0 0] 45 ∧ w6.heap.size = w2.heap.size + 1) := hid (fun w6 hw6 => by
    rw [hw6]
    exact ⟨(HB2.out.alloc HB2.out.size _).drew, (HK2.out.alloc _).drew, (Blk.new _ _ _).drew, by simp⟩)
  go_wp2_with fail
  refine wp_region_held_drew (S := (fun w' => w'.cell? ⟨g, 0, none⟩ = some (.int .i64 node) ∧ w'.cell? ⟨g, 1, none⟩ = some (.int .i64 seq))) (by kernel_rfl) (by (refine KEEP.out _ ?_; (repeat' (first | assumption | (with_reducible exact Below.refl _ _) | (with_reducible refine Below.drew ?_) | (with_reducible refine Below.alloc ?_ (by first | exact Nat.le_refl _ | (exact Below.size (by assumption)) | (simp; done) | (simp; omega)) _))))) (fun hHeld => ?_)
  refine wpAnyH_take (i := 0) (oi := ⟨_, _, _, _, _, _⟩) (v := ?_) rfl (by kernel_rfl) (by kernel_rfl) (by kernel_rfl) (fun _ _ _ h => h) (Or.inl ⟨by rfl, ?_⟩) hHeld ?_
  rotate_left
  · (intro w hSw; (try dsimp only at hSw); go_simp) <;> with_reducible rfl
  try simp only [Act.put, List.setIfInBounds_toArray, List.set_cons_zero, List.set_cons_succ]
  refine wpAnyH_take (i := 1) (oi := ⟨_, _, _, _, _, _⟩) (v := ?_) rfl (by kernel_rfl) (by kernel_rfl) (by kernel_rfl) (fun _ _ _ h => h) (Or.inl ⟨by rfl, ?_⟩) hHeld ?_
  rotate_left
  · (intro w hSw; (try dsimp only at hSw); go_simp) <;> with_reducible rfl
  try simp only [Act.put, List.setIfInBounds_toArray, List.set_cons_zero, List.set_cons_succ]
  refine wpAnyH_take (i := 2) (oi := ⟨_, _, _, _, _, _⟩) (v := ?_) rfl (by kernel_rfl) (by kernel_rfl) (by kernel_rfl) (fun _ _ _ h => h) (Or.inl ⟨by rfl, ?_⟩) hHeld ?_
  rotate_left
  · (intro w hSw; (try dsimp only at hSw); go_simp) <;> with_reducible rfl
  try simp only [Act.put, List.setIfInBounds_toArray, List.set_cons_zero, List.set_cons_succ]
  refine wpAnyH_take (i := 3) (oi := ⟨_, _, _, _, _, _⟩) (v := ?_) rfl (by kernel_rfl) (by kernel_rfl) (by kernel_rfl) (fun _ _ _ h => h) (Or.inl ⟨by rfl, ?_⟩) hHeld ?_
  rotate_left
  · (intro w hSw; (try dsimp only at hSw); go_simp) <;> with_reducible rfl
  try simp only [Act.put, List.setIfInBounds_toArray, List.set_cons_zero, List.set_cons_succ]
  refine wpAnyH_take (i := 4) (oi := ⟨_, _, _, _, _, _⟩) (v := ?_) rfl (by kernel_rfl) (by kernel_rfl) (by kernel_rfl) (fun _ _ _ h => h) (Or.inl ⟨by rfl, ?_⟩) hHeld ?_
  rotate_left
  · (intro w hSw; (try dsimp only at hSw); go_simp) <;> with_reducible rfl
  try simp only [Act.put, List.setIfInBounds_toArray, List.set_cons_zero, List.set_cons_succ]
  refine wpAnyH_take (i := 5) (oi := ⟨_, _, _, _, _, _⟩) (v := ?_) rfl (by kernel_rfl) (by kernel_rfl) (by kernel_rfl) (fun _ _ _ h => h) (Or.inl ⟨by rfl, ?_⟩) hHeld ?_
  rotate_left
  · (intro w hSw; (try dsimp only at hSw); go_simp) <;> with_reducible rfl
  try simp only [Act.put, List.setIfInBounds_toArray, List.set_cons_zero, List.set_cons_succ]
  refine wpAnyH_take (i := 6) (oi := ⟨_, _, _, _, _, _⟩) (v := ?_) rfl (by kernel_rfl) (by kernel_rfl) (by kernel_rfl) (fun _ _ _ h => h) (Or.inl ⟨by rfl, ?_⟩) hHeld ?_
  rotate_left
  · (intro w hSw; (try dsimp only at hSw); go_simp) <;> with_reducible rfl
  try simp only [Act.put, List.setIfInBounds_toArray, List.set_cons_zero, List.set_cons_succ]
  refine wpAnyH_ready (rs := [7]) (by kernel_rfl) (by simp) ?_
  refine AllReadyH.cons (o := ⟨_, _, _, _, _, _⟩) rfl (fun K hK => ?_) AllReadyH.nil
  clear hHeld
  go_simp
  refine hK.out _ _ (by (refine KEEP.out _ ?_; (repeat' (first | assumption | (with_reducible exact Below.refl _ _) | (with_reducible refine Below.drew ?_) | (with_reducible refine Below.alloc ?_ (by first | exact Nat.le_refl _ | (exact Below.size (by assumption)) | (simp; done) | (simp; omega)) _))))) (fun hHeld => ?_)
  clear hK K
  try simp only [Act.put, List.setIfInBounds_toArray, List.set_cons_zero, List.set_cons_succ]
  refine wpAnyH_ready (rs := [8]) (by kernel_rfl) (by simp) ?_
  refine AllReadyH.cons (o := ⟨_, _, _, _, _, _⟩) rfl (fun K hK => ?_) AllReadyH.nil
  clear hHeld
  go_simp
  refine hK.out _ _ (by (refine KEEP.out _ ?_; (repeat' (first | assumption | (with_reducible exact Below.refl _ _) | (with_reducible refine Below.drew ?_) | (with_reducible refine Below.alloc ?_ (by first | exact Nat.le_refl _ | (exact Below.size (by assumption)) | (simp; done) | (simp; omega)) _))))) (fun hHeld => ?_)
  clear hK K
  try simp only [Act.put, List.setIfInBounds_toArray, List.set_cons_zero, List.set_cons_succ]
  refine wpAnyH_done (by kernel_rfl) ?_ _
  go_upto_region 9 with fail
  refine wp_genS ?_
  intro w6 hw6
  obtain ⟨hb6, hk6, hr6, hs6⟩ := HNEW.out w6 hw6
  have hsW := hb6.size
  have hWl := hk6.lt
  have hW2 : W.heap.size < w2.heap.size := HK2.out.lt
  have HE0 : Hid (∃ a c, Below W.heap.size W w6 ∧ Blk w6 W.heap.size #[.int .i64 0, .int .i64 0, .slice none 0 0] 45 ∧ Blk w6 w2.heap.size #[.int .i64 node, .int .i64 seq, .slice a 0 c] 45 ∧ w6.ownsRow (w2.heap.size + 1) 37 11 (.slice a 0 c) 0 ((sp.take 0).flatMap Sp.enc)) := hid ⟨none, 0, hb6, hk6, hr6, World.ownsRow_nil _ _ _ _⟩
  clear hw6 hb6 hk6 hr6 HNEW KEEP hHeld HB2 HK2 HG2 HB1 XN i0 i1 hgl
  go_loopw [6, 10] (fun s6 s10 wr => ∃ k : Nat, k ≤ sp.length ∧ s10 = .int .i64 k ∧ s6 = .int .i64 (n3 + ((sp.take k).flatMap (fun x => toN (spW x))).length : Nat) ∧ Hid (w6.heap.size ≤ wr.heap.size ∧ ∃ a c, Below W.heap.size W wr ∧ Blk wr W.heap.size #[.int .i64 0, .int .i64 0, .slice none 0 0] 45 ∧ Blk wr w2.heap.size #[.int .i64 node, .int .i64 seq, .slice a k c] 45 ∧ wr.ownsRow (w2.heap.size + 1) 37 11 (.slice a k c) k ((sp.take k).flatMap Sp.enc))) (fun _ i _ => sp.length - (intOf i).toNat)
  case atStart => exact ⟨0, Nat.zero_le _, rfl, by simp, hid ⟨Nat.le_refl _, HE0.out⟩⟩
  case round =>
    obtain ⟨k, hk, rfl, rfl, HE⟩ := hrel
    obtain ⟨hsr, a, c, hbW, hbR, hbB, hown⟩ := HE.out
    have HBW := hid hbW
    have HBR := hid hbR
    have HBB := hid hbB
    have HOWN := hid hown
    clear hbW hbR hbB hown HE
    by_cases hlt : k < sp.length
    · have hx := flat_at2 HSP.out hlt
      obtain ⟨hwf, hch⟩ := HOK.out sp[k] (List.getElem_mem hlt)
      have X := hid (fun w => C09.rread_any b (n3 + ((sp.take k).flatMap (fun x => toN (spW x))).length) sp[k] w (by omega) hwf hch hx)
      have HNX : Hid (n3 + ((sp.take (k + 1)).flatMap (fun x => toN (spW x))).length = n3 + ((sp.take k).flatMap (fun x => toN (spW x))).length + (spW sp[k]).size) := hid (by
        rw [List.take_succ_eq_append_getElem hlt, List.flatMap_append, List.length_append]
        simp only [List.flatMap_cons, List.flatMap_nil, List.append_nil, toN_len]
        omega)
      have HS : Hid ((sp.take (k + 1)).flatMap Sp.enc = (sp.take k).flatMap Sp.enc ++ sp[k].enc) := hid (by
        rw [List.take_succ_eq_append_getElem hlt, List.flatMap_append]; simp)
      clear hx hwf hch
      generalize sp[k] = y at X HNX HS
      generalize n3 + ((sp.take k).flatMap (fun x => toN (spW x))).length = ax at X HNX ⊢
      generalize ax + (spW y).size = ay at X HNX
      go_wp2_with fail
      refine (X.out _).mono ?_
      rintro e w7 ⟨rfl, hb7⟩
      have HB7 := hid (HBW.out.trans (hb7.mono HBW.out.size))
      have HR7 := hid (HBR.out.later hb7)
      have HK7 := hid (HBB.out.later hb7)
      have HO7 := hid (Gen.owns_below HOWN.out hb7)
      have hs7 := hb7.size
      clear hb7 X HBW HBR HBB HOWN
      go_upto_region 12 with fail
      refine wp_genS ?_
      intro w8 hw8
      have hb8 : Below w7.heap.size w7 w8 := by rw [hw8]; go_grown
      have hy8 : Blk w8 w7.heap.size #[.int .u64 y.hi, .int .u64 y.lo, .int .u64 y.id, .int .u64 y.up, .string y.name, .int .i64 y.status, .int .i64 y.seq, .int .i64 y.kids, .bool y.shadow, .int .i64 y.start, .int .i64 y.stop] 37 := by rw [hw8]; exact Blk.new _ _ _
      clear hw8
      have HB8 := hid (HB7.out.trans (hb8.mono HB7.out.size))
      have HR8 := hid (HR7.out.later hb8)
      have HK8 := hid (HK7.out.later hb8)
      have HO8 := hid (Gen.owns_below HO7.out hb8)
      have hs8 := hb8.size
      obtain ⟨x0, x1, x2, x3, x4, x5, x6, x7, x8, x9, x10, -⟩ := blk11 hy8
      obtain ⟨z0, z1, z2⟩ := blk3o HK8.out
      have hl8 := hy8.lt
      have hz8 := HK8.out.lt
      clear hb8 hy8 HB7 HR7 HK7 HO7
      have h63 : k + 1 ≤ maxLen := by unfold maxLen; omega
      have hby : (k + 1) * 96 ≤ 140737488355328 := by omega
      have hbase : w2.heap.size + 1 ≤ w8.heap.size := by omega
      go_wp2_with (at_builtin; refine wpList_push (w0 := w8) (T := 37) (news := Sp.enc y) C30.elemS rfl _ _ rfl (w2.heap.size + 1) (.slice a k c) k _ rfl HO8.out rfl rfl rfl (by simp [Sp.enc, Value.oneCell']) h63 hby hbase ?_; intro v9 w9 hown9 hb9; obtain ⟨a9, c9, rfl⟩ := Gen.owns_form hown9; have hk9 : Blk w9 w2.heap.size #[.int .i64 node, .int .i64 seq, .slice a k c] 45 := HK8.out.below hb9 (Nat.lt_succ_self _); have z9 : w9.cell? ⟨w2.heap.size, 2, none⟩ = some (.slice a k c) := hk9.cell 2; have zf9 : w9.frozen? ⟨w2.heap.size, 2, none⟩ = false := hk9.free 2; have hl9 := hk9.lt; have HK9 := hid hk9; have HB9 := hid hb9; have HO9 := hid hown9; clear hk9 hb9 hown9)
      have HE9 : Hid (w6.heap.size ≤ (w9.setCell ⟨w2.heap.size, 2, none⟩ (.slice a9 (k + 1) c9)).heap.size ∧ ∃ a c, Below W.heap.size W (w9.setCell ⟨w2.heap.size, 2, none⟩ (.slice a9 (k + 1) c9)) ∧ Blk (w9.setCell ⟨w2.heap.size, 2, none⟩ (.slice a9 (k + 1) c9)) W.heap.size #[.int .i64 0, .int .i64 0, .slice none 0 0] 45 ∧ Blk (w9.setCell ⟨w2.heap.size, 2, none⟩ (.slice a9 (k + 1) c9)) w2.heap.size #[.int .i64 node, .int .i64 seq, .slice a (k + 1) c] 45 ∧ (w9.setCell ⟨w2.heap.size, 2, none⟩ (.slice a9 (k + 1) c9)).ownsRow (w2.heap.size + 1) 37 11 (.slice a (k + 1) c) (k + 1) ((sp.take (k + 1)).flatMap Sp.enc)) := hid (by
        have ho : Only [w2.heap.size] w9 (w9.setCell ⟨w2.heap.size, 2, none⟩ (.slice a9 (k + 1) c9)) := (Only.refl _ _).setCell (by simp) _
        have hs9 := HB9.out.size
        refine ⟨by have := ho.size; omega, a9, c9, ?_, ?_, HK9.out.set 2 _, ?_⟩
        · exact (HB8.out.trans (HB9.out.mono (by omega))).trans (ho.below (by omega) (fun b hb => by simp at hb; omega))
        · exact (HR8.out.below HB9.out (by omega)).only ho (by simp; omega)
        · rw [HS.out]
          exact owns_keep HO9.out ho (fun b hb hm => by have := (owns_bd HO9.out b hb).1; simp at hm; omega))
      clear x0 x1 x2 x3 x4 x5 x6 x7 x8 x9 x10 z0 z1 z2 z9 zf9 HK9 HB9 HO9 HK8 HO8 HB8 HR8
      go_wp2_with fail
      go_roundw
      case rel => exact ⟨k + 1, by omega, by go_num, by rw [HNX.out], HE9⟩
      case measure => simp [intOf]; omega
    · obtain rfl : k = sp.length := by omega
      have hpos : n3 + ((sp.take sp.length).flatMap (fun x => toN (spW x))).length = b.size := by rw [List.take_length]; exact hroom
      rw [hpos]
      obtain ⟨z0, z1, z2⟩ := blk3o HBB.out
      obtain ⟨y0, y1, y2⟩ := blk3o HBR.out
      have yf := HBR.out.free
      have hl1 := HBR.out.lt
      have hl2 := HBB.out.lt
      have HROW : Hid (RowsOf (fun b => W.heap.size ≤ b ∧ b < wr.heap.size ∧ b ≠ W.heap.size) Sp.enc 11 wr (.slice a sp.length c) sp) := hid (by
        have h0 := HOWN.out
        rw [List.take_length] at h0
        exact (RowsOf.of_owns (enc := Sp.enc) Sp.enc_length h0).imp (fun b hb => ⟨by have := hb.1; omega, hb.2, by have := hb.1; omega⟩))
      clear HOWN hpos hroom
      go_wp2_with fail
      refine bodyPost_ret (by simp [results, Try.results11, go_sem, y0, y1, y2]; try rfl) rfl ?_
      have ho3 : Only [W.heap.size] wr (((wr.setCell ⟨W.heap.size, 0, none⟩ (.int .i64 node)).setCell ⟨W.heap.size, 1, none⟩ (.int .i64 seq)).setCell ⟨W.heap.size, 2, none⟩ (.slice a sp.length c)) := by
        iterate 3 (refine Only.setCell ?_ (by simp) _)
        exact Only.refl _ _
      refine ⟨a, c, rfl, HBW.out.trans (ho3.below HBW.out.size (fun b hb => by simp at hb; omega)), hid ((HROW.out.only ho3 (fun b hb => ⟨hb.2.1, by simp; exact hb.2.2⟩)).imp (fun b hb => ⟨hb.1, Nat.lt_of_lt_of_le hb.2.1 ho3.size⟩))⟩
end C10
end Go.Proofs.Ytcohcanakicmpaa
namespace Go.Peri
open Go.RowKit
/-- A batch under way: its spans lie where pa says. -/
structure Sq where
  node : Int
  seq : Int
  pa : Option Addr
  pcap : Nat
  sp : List Sp
  tries : Int
  due : Int
instance : Inhabited Sq := ⟨⟨0, 0, none, 0, [], 0, 0⟩⟩
namespace Sq
def enc (k : Sq) : List Value := [.int .i64 k.node, .int .i64 k.seq, .slice k.pa k.sp.length k.pcap, .int .i64 k.tries, .int .i64 k.due]
theorem enc_length (k : Sq) : k.enc.length = 5 := rfl
/-- But for where its spans lie. -/
def core (k : Sq) : Sq := { k with pa := none, pcap := 0 }
theorem core_eq {a b : Sq} (h : a.core = b.core) : a.node = b.node ∧ a.seq = b.seq ∧ a.sp = b.sp ∧ a.tries = b.tries ∧ a.due = b.due := by
  obtain ⟨⟩ := a
  obtain ⟨⟩ := b
  simp only [core, Sq.mk.injEq] at h
  simp only []
  exact ⟨h.1, h.2.1, h.2.2.2.2.1, h.2.2.2.2.2.1, h.2.2.2.2.2.2⟩
theorem core_of {a b : Sq} (h0 : a.node = b.node) (h1 : a.seq = b.seq) (h2 : a.sp = b.sp) (h3 : a.tries = b.tries) (h4 : a.due = b.due) : a.core = b.core := by
  obtain ⟨⟩ := a
  obtain ⟨⟩ := b
  simp only [core, Sq.mk.injEq]
  simp only [] at h0 h1 h2 h3 h4
  exact ⟨h0, h1, trivial, trivial, h2, h3, h4⟩
def At (p : Nat → Prop) (w : World) (k : Sq) : Prop := RowsOf p Sp.enc 11 w (.slice k.pa k.sp.length k.pcap) k.sp
theorem At.imp {p q : Nat → Prop} {w : World} {k : Sq} (h : At p w k) (hpq : ∀ b, p b → q b) : At q w k := RowsOf.imp h hpq
theorem At.only {p : Nat → Prop} {S : List Nat} {w w' : World} {k : Sq} (h : At p w k) (ho : Only S w w') (hp : ∀ b, p b → b < w.heap.size ∧ b ∉ S) : At p w' k := RowsOf.only h ho hp
theorem At.below {p : Nat → Prop} {B : Nat} {w w' : World} {k : Sq} (h : At p w k) (ho : Below B w w') (hp : ∀ b, p b → b < B) : At p w' k := RowsOf.below h ho hp
def ty : Ty := .cons (.cons (.int .i64) (.cons (.int .i64) (.cons (.slice 96 Sp.ty) .nil))) (.cons (.int .i64) (.cons (.int .i64) .nil))
structure Wf (w : World) (B : Nat) (k : Sq) : Prop where
  rows : RowsOf (· < B) Sp.enc 11 w (.slice k.pa k.sp.length k.pcap) k.sp
  len : k.sp.length * 96 ≤ 140737488351232
theorem Wf.below {w w' : World} {B : Nat} {k : Sq} (h : Wf w B k) (hb : Below B w w') : Wf w' B k := ⟨h.rows.below hb (fun _ h => h), h.len⟩
theorem of_rd {w : World} {B : Nat} {cs : List Value} (h : Rd w B ty cs) : ∃ k : Sq, cs = k.enc ∧ Wf w B k := by
  obtain ⟨_, _, rfl, _, h1, h⟩ := h
  obtain ⟨_, _, rfl, _, a1, h1⟩ := h1
  obtain ⟨_, _, rfl, _, a2, h1⟩ := h1
  obtain ⟨c1, _, rfl, hl1, a3, h1⟩ := h1
  obtain ⟨_, _, rfl, _, a4, h⟩ := h
  obtain ⟨_, _, rfl, _, a5, h⟩ := h
  obtain ⟨node, rfl, _⟩ := Sp.rd_i64 a1
  obtain ⟨seq, rfl, _⟩ := Sp.rd_i64 a2
  obtain ⟨tries, rfl, _⟩ := Sp.rd_i64 a4
  obtain ⟨due, rfl, _⟩ := Sp.rd_i64 a5
  have e1 : (_ : List Value) = [] := h1
  have e2 : (_ : List Value) = [] := h
  subst e1 e2
  obtain ⟨v1, rfl⟩ : ∃ v, c1 = [v] := by
    match c1, hl1 with
    | [v], _ => exact ⟨v, rfl⟩
  obtain ⟨l, k1, k2, _⟩ := rows_of_arg (enc := Sp.enc) (wf := fun _ => True) (e := Sp.ty) (fun _ => rfl) (fun cs hc => (Sp.of_rd hc).imp fun _ h => ⟨h.1, trivial⟩) (v := v1) a3
  obtain ⟨a, cap, rfl⟩ : ∃ a cap, v1 = .slice a l.length cap := by
    obtain ⟨a, cap, e, _⟩ := k1
    exact ⟨a, cap, e⟩
  exact ⟨⟨node, seq, a, cap, l, tries, due⟩, rfl, ⟨k1, k2⟩⟩
theorem cells {y : Sq} {w : World} {b o : Nat} (h : ∀ j u, y.enc[j]? = some u → w.cell? ⟨b, o + j, none⟩ = some u) :
    w.cell? ⟨b, o, none⟩ = some (.int .i64 y.node) ∧ w.cell? ⟨b, o + 1, none⟩ = some (.int .i64 y.seq) ∧ w.cell? ⟨b, o + 2, none⟩ = some (.slice y.pa y.sp.length y.pcap) ∧ w.cell? ⟨b, o + 3, none⟩ = some (.int .i64 y.tries) ∧ w.cell? ⟨b, o + 4, none⟩ = some (.int .i64 y.due) :=
  ⟨h 0 _ rfl, h 1 _ rfl, h 2 _ rfl, h 3 _ rfl, h 4 _ rfl⟩
theorem one (l : List Sq) : ∀ u ∈ l.flatMap Sq.enc, u.oneCell' = true := by
  intro u hu
  obtain ⟨o, _, ho⟩ := List.mem_flatMap.1 hu
  simp only [Sq.enc, List.mem_cons, List.not_mem_nil, or_false] at ho
  rcases ho with rfl | rfl | rfl | rfl | rfl <;> rfl
def few (l : List Sq) : Bool := decide (l.length ≤ 30) && l.all (fun k => decide (k.sp.length ≤ 60))
theorem few_len {l : List Sq} (h : few l = true) : l.length ≤ 30 := by
  unfold few at h
  rw [Bool.and_eq_true] at h
  exact of_decide_eq_true h.1
theorem few_sp {l : List Sq} (h : few l = true) : ∀ k ∈ l, k.sp.length ≤ 60 := by
  unfold few at h
  rw [Bool.and_eq_true, List.all_eq_true] at h
  exact fun k hk => of_decide_eq_true (h.2 k hk)
end Sq
theorem sents_of_arg {w : World} {B : Nat} {v : Value} (h : Arg w B (.slice 56 Sq.ty) v) : ∃ l : List Sq, RowsOf (· < B) Sq.enc 5 w v l ∧ l.length * 56 ≤ 140737488351232 ∧ (∀ x ∈ l, x.Wf w B) := by
  obtain ⟨l, h1, h2, h3⟩ := rows_of_arg (enc := Sq.enc) (wf := Sq.Wf w B) (e := Sq.ty) (fun _ => rfl) (fun cs hc => Sq.of_rd hc) h
  exact ⟨l, h1, h2, h3⟩
end Go.Peri
