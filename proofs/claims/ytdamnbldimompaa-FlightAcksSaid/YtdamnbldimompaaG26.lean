/- Walks of layer 26 (flight): clock, due, what is sent first; no condition. -/
import Derived.Test.YtdamnbldimompaaF26
import Derived.Deep.RegionHeld3
namespace Go.Proofs.Ytdamnbldimompaa
open Go.RowKit Go.Peri
open Gen (flat_set set_mid get_mid map_take_snoc owns_at owns_num owns_le owns_below owns_form)
namespace C26
open Sq (rest ixQ atQ total bk benc)
/-- A time that may be. -/
def clk (n : Int) : Int := max 0 (min n 1099511627776)
def dueI (n r : Int) : Int := clk n + max 1 (min r 8)
set_option maxRecDepth 100000 in
theorem clock_any (n : Int) (W : World) : Calls Try.prog 47 #[.int .i64 n] W fun e w' => e = .returned (.int .i64 (clk n)) ∧ W = w' := by
  go_enter Try.func47, Try.ntmps47
  go_wp2_with fail
  go_ret
  exact ⟨rfl, rfl⟩
set_option maxRecDepth 100000 in
theorem due_any (n r : Int) (W : World) : Calls Try.prog 44 #[.int .i64 n, .int .i64 r] W fun e w' => e = .returned (.int .i64 (dueI n r)) ∧ W = w' := by
  have HC := hid (clock_any n W)
  have hw : IntKind.i64.wrap (clk n + max 1 (min r 8)) = clk n + max 1 (min r 8) := by rw [IntKind.wrap_i64]; unfold clk; omega
  obtain ⟨c, hc⟩ : ∃ c, clk n = c := ⟨_, rfl⟩
  have HD : Hid (dueI n r = c + max 1 (min r 8)) := hid (by unfold dueI; rw [hc])
  rw [hc] at HC hw
  clear hc
  go_enter Try.func44, Try.ntmps44
  go_wp2_with fail
  refine HC.out.mono ?_
  rintro e w1 ⟨rfl, rfl⟩
  go_wp2_with fail
  go_ret
  exact ⟨by rw [HD.out]; rfl, rfl⟩
set_option maxRecDepth 100000 in
theorem copied_nil (W : World) : Calls Try.prog 34 #[.slice none 0 0] W fun e w' => e = .returned (.slice none 0 0) ∧ W = w' := by
  have HC : Hid (Calls Try.prog 49 #[.slice none 0 0] W fun e w' => e = .returned (.slice none 0 0) ∧ W = w') := hid (by
    have qnil : ∀ (w : World) (a : Option Addr) (n c : Nat), (binOp .eql 44 (.slice a n c) (.slice none 0 0)).run Try.prog w = .ok (.bool a.isNone) w := fun w a n c => Lib.run_eql_slice_nil w 44 62 a n c 0 0 Try.underlying44
    go_enter Try.func49, Try.ntmps49
    go_wp2_with fail
    go_ret
    exact ⟨rfl, rfl⟩)
  go_enter Try.func34, Try.ntmps34
  go_wp2_with fail
  refine HC.out.mono ?_
  rintro e w1 ⟨rfl, rfl⟩
  go_wp2_with fail
  go_loopw [10] (fun i wr => i = .int .i64 0 ∧ W = wr) (fun _ _ => 0)
  case atStart => exact ⟨rfl, rfl⟩
  case round =>
    obtain ⟨rfl, rfl⟩ := hrel
    go_wp2_with fail
    go_ret
    exact ⟨rfl, rfl⟩
/-- One batch under way. -/
def OneQ (W : World) (y : Sq) (v : Value) (w' : World) : Prop := ∃ a cap, v = .slice a 1 cap ∧ FR W [y] a 1 cap w'
theorem one_fin {W w1 w' : World} {base base2 : Nat} {v : Value} {k : Sq} {y : Sq} (hb1 : Below W.heap.size W w1) (hk : OwnK base2 w1 k) (hown : w'.ownsRow base 62 5 v 1 (Sq.enc k)) (hb : Below base w1 w') (hB : w1.heap.size ≤ base) (hy : k.core = y) : OneQ W y v w' := by
  obtain ⟨a, cap, rfl⟩ := owns_form hown
  have hbb : Below w1.heap.size w1 w' := hb.mono hB
  refine ⟨a, cap, rfl, [k], rfl, by rw [List.map_singleton, hy], hb1.trans (hbb.mono hb1.size), RowsOf.imp (rows_len (n := 1) rfl (RowsOf.of_owns (l := [k]) Sq.enc_length (by simpa using hown))) (fun b hb => hb.2), fun x hx => ?_⟩
  rw [List.mem_singleton.1 hx]
  exact RowsOf.imp (RowsOf.of_owns Sp.enc_length (owns_below hk hbb)) (fun b hb => hb.2)
set_option maxRecDepth 100000 in
set_option maxHeartbeats 8000000 in
theorem send_nil (k : Sq) (now retry : Int) (W : World) (h : k.At (· < W.heap.size) W) (hl : k.sp.length ≤ 1000000) :
    Calls Try.prog 30 #[.slice none 0 0, .agg #[.int .i64 k.node, .int .i64 k.seq, .slice k.pa k.sp.length k.pcap], .int .i64 now, .int .i64 retry] W (Ret (OneQ W { k.core with tries := 1, due := dueI now retry })) := by
  have HAT := hid h
  clear h
  go_enter Try.func30, Try.ntmps30
  go_upto_region 1 with fail
  refine wp_genF ?_
  intro w1 hw1
  have hb1 : Below W.heap.size W w1 := by rw [hw1]; go_grown
  have hk1 : Blk w1 W.heap.size #[.int .i64 k.node, .int .i64 k.seq, .slice k.pa k.sp.length k.pcap] 60 := by rw [hw1]; exact Blk.new _ _ _
  clear hw1
  have HB1 := hid hb1
  have HK1 := hid hk1
  have hlt := hk1.lt
  have KEEP : Hid (∀ w', Below w1.heap.size w1 w' → w'.cell? ⟨W.heap.size, 0, none⟩ = some (.int .i64 k.node) ∧ w'.cell? ⟨W.heap.size, 1, none⟩ = some (.int .i64 k.seq) ∧ w'.cell? ⟨W.heap.size, 2, none⟩ = some (.slice k.pa k.sp.length k.pcap)) := hid (fun w' hb => ⟨(HK1.out.later hb).cell 0, (HK1.out.later hb).cell 1, (HK1.out.later hb).cell 2⟩)
  have XC := hid (fun w' => copied_nil w')
  have XO : Hid (∀ w', Below w1.heap.size w1 w' → Calls Try.prog 43 #[.agg #[.int .i64 k.node, .int .i64 k.seq, .slice k.pa k.sp.length k.pcap]] w' fun e w'' => ∃ pa pcap, e = .returned (.agg #[.int .i64 k.node, .int .i64 k.seq, .slice pa k.sp.length pcap]) ∧ Below w1.heap.size w1 w'' ∧ Hid (OwnK w1.heap.size w'' { k with pa := pa, pcap := pcap })) := hid (fun w' hb => by
    refine (own_any (p := (· < W.heap.size)) k w' (HAT.out.below (HB1.out.trans (hb.mono HB1.out.size)) (fun _ h => h)) (fun b hb' => Nat.lt_of_lt_of_le hb' (HB1.out.trans (hb.mono HB1.out.size)).size) hl).mono ?_
    rintro e w'' ⟨v, rfl, pa, pcap, rfl, hb2, ho⟩
    exact ⟨pa, pcap, rfl, hb.trans (hb2.mono hb.size), ho.le hb.size⟩)
  have XD := hid (fun w' => due_any now retry w')
  obtain ⟨dd, hdd⟩ : ∃ d, dueI now retry = d := ⟨_, rfl⟩
  rw [hdd] at XD
  have HDD := hid hdd
  clear hdd hb1 hk1
  obtain ⟨z0, z1, z2⟩ := KEEP.out w1 (Below.refl _ _)
  have h63 : 0 + 1 ≤ maxLen := by decide
  have hby : (0 + 1) * 56 ≤ 140737488355328 := by decide
  go_wp2_with fail
  refine wp_region_held_drew (S := (fun w' => w'.cell? ⟨W.heap.size, 0, none⟩ = some (.int .i64 k.node) ∧ w'.cell? ⟨W.heap.size, 1, none⟩ = some (.int .i64 k.seq) ∧ w'.cell? ⟨W.heap.size, 2, none⟩ = some (.slice k.pa k.sp.length k.pcap))) (by kernel_rfl) (by (refine KEEP.out _ ?_; (repeat' (first | assumption | (with_reducible exact Below.refl _ _) | (with_reducible refine Below.drew ?_) | (with_reducible refine Below.alloc ?_ (by first | exact Nat.le_refl _ | (exact Below.size (by assumption)) | (simp; done) | (simp; omega)) _))))) (fun hHeld => ?_)
  refine wpAnyH_take (i := 0) (oi := ⟨_, _, _, _, _, _⟩) (v := ?_) rfl (by kernel_rfl) (by kernel_rfl) (by kernel_rfl) (fun _ _ _ h => h) (Or.inl ⟨by rfl, ?_⟩) hHeld ?_
  rotate_left
  · (intro w hSw; (try dsimp only at hSw); go_simp) <;> with_reducible rfl
  try simp only [Act.put, List.setIfInBounds_toArray, List.set_cons_zero, List.set_cons_succ]
  refine wpAnyH_take (i := 2) (oi := ⟨_, _, _, _, _, _⟩) (v := ?_) rfl (by kernel_rfl) (by kernel_rfl) (by kernel_rfl) (fun _ _ _ h => h) (Or.inl ⟨by rfl, ?_⟩) hHeld ?_
  rotate_left
  · (intro w hSw; (try dsimp only at hSw); go_simp) <;> with_reducible rfl
  try simp only [Act.put, List.setIfInBounds_toArray, List.set_cons_zero, List.set_cons_succ]
  refine wpAnyH_take (i := 4) (oi := ⟨_, _, _, _, _, _⟩) (v := ?_) rfl (by kernel_rfl) (by kernel_rfl) (by kernel_rfl) (fun _ _ _ h => h) (Or.inl ⟨by rfl, ?_⟩) hHeld ?_
  rotate_left
  · (intro w hSw; (try dsimp only at hSw); go_simp) <;> with_reducible rfl
  try simp only [Act.put, List.setIfInBounds_toArray, List.set_cons_zero, List.set_cons_succ]
  refine wpAnyH_take (i := 5) (oi := ⟨_, _, _, _, _, _⟩) (v := ?_) rfl (by kernel_rfl) (by kernel_rfl) (by kernel_rfl) (fun _ _ _ h => h) (Or.inl ⟨by rfl, ?_⟩) hHeld ?_
  rotate_left
  · (intro w hSw; (try dsimp only at hSw); go_simp) <;> with_reducible rfl
  try simp only [Act.put, List.setIfInBounds_toArray, List.set_cons_zero, List.set_cons_succ]
  refine wpAnyH_ready (rs := [1]) (by kernel_rfl) (by simp) ?_
  refine AllReadyH.cons (o := ⟨_, _, _, _, _, _⟩) rfl (fun K hK => ?_) AllReadyH.nil
  clear hHeld
  go_simp
  go_at_call 34
  refine (XC.out _).mono ?_
  rintro e w' ⟨rfl, rfl⟩
  refine hK.out _ _ (by (refine KEEP.out _ ?_; (repeat' (first | assumption | (with_reducible exact Below.refl _ _) | (with_reducible refine Below.drew ?_) | (with_reducible refine Below.alloc ?_ (by first | exact Nat.le_refl _ | (exact Below.size (by assumption)) | (simp; done) | (simp; omega)) _))))) (fun hHeld => ?_)
  clear hK K
  try simp only [Act.put, List.setIfInBounds_toArray, List.set_cons_zero, List.set_cons_succ]
  refine wpAnyH_ready (rs := [3]) (by kernel_rfl) (by simp) ?_
  refine AllReadyH.cons (o := ⟨_, _, _, _, _, _⟩) rfl (fun K hK => ?_) AllReadyH.nil
  clear hHeld
  go_simp
  go_at_call 43
  refine (XO.out _ (by first | assumption | exact Below.refl _ _ | exact (Below.refl _ _).drew)).mono ?_
  rintro e w3 ⟨pa, pcap, rfl, hB3, hO3⟩
  refine hK.out _ _ (by (refine KEEP.out _ ?_; (repeat' (first | assumption | (with_reducible exact Below.refl _ _) | (with_reducible refine Below.drew ?_) | (with_reducible refine Below.alloc ?_ (by first | exact Nat.le_refl _ | (exact Below.size (by assumption)) | (simp; done) | (simp; omega)) _))))) (fun hHeld => ?_)
  clear hK K
  try simp only [Act.put, List.setIfInBounds_toArray, List.set_cons_zero, List.set_cons_succ]
  refine wpAnyH_ready (rs := [6]) (by kernel_rfl) (by simp) ?_
  refine AllReadyH.cons (o := ⟨_, _, _, _, _, _⟩) rfl (fun K hK => ?_) AllReadyH.nil
  clear hHeld
  go_simp
  go_at_call 44
  refine (XD.out _).mono ?_
  rintro e w' ⟨rfl, rfl⟩
  refine hK.out _ _ (by (refine KEEP.out _ ?_; (repeat' (first | assumption | (with_reducible exact Below.refl _ _) | (with_reducible refine Below.drew ?_) | (with_reducible refine Below.alloc ?_ (by first | exact Nat.le_refl _ | (exact Below.size (by assumption)) | (simp; done) | (simp; omega)) _))))) (fun hHeld => ?_)
  clear hK K
  try simp only [Act.put, List.setIfInBounds_toArray, List.set_cons_zero, List.set_cons_succ]
  refine wpAnyH_take (i := 7) (oi := ⟨_, _, _, _, _, _⟩) (v := ?_) rfl (by kernel_rfl) (by kernel_rfl) (by kernel_rfl) (fun _ _ _ h => h) (Or.inl ⟨by rfl, ?_⟩) hHeld ?_
  rotate_left
  · (intro w hSw; (try dsimp only at hSw); go_simp) <;> with_reducible rfl
  try simp only [Act.put, List.setIfInBounds_toArray, List.set_cons_zero, List.set_cons_succ]
  refine wpAnyH_ready (rs := [8]) (by kernel_rfl) (by simp) ?_
  refine AllReadyH.cons (o := ⟨_, _, _, _, _, _⟩) rfl (fun K hK => ?_) AllReadyH.nil
  clear hHeld
  go_simp
  refine hK.out _ _ (by (refine KEEP.out _ ?_; (repeat' (first | assumption | (with_reducible exact Below.refl _ _) | (with_reducible refine Below.drew ?_) | (with_reducible refine Below.alloc ?_ (by first | exact Nat.le_refl _ | (exact Below.size (by assumption)) | (simp; done) | (simp; omega)) _))))) (fun hHeld => ?_)
  clear hK K
  try simp only [Act.put, List.setIfInBounds_toArray, List.set_cons_zero, List.set_cons_succ]
  refine wpAnyH_ready (rs := [9]) (by kernel_rfl) (by simp) ?_
  refine AllReadyH.cons (o := ⟨_, _, _, _, _, _⟩) rfl (fun K hK => ?_) AllReadyH.nil
  clear hHeld
  refine step_push elemQ rfl (.tmp 10) (.tmp 17) rfl w3.heap.size (.slice none 0 0) 0 [] (Sq.enc { k with pa := pa, pcap := pcap, tries := 1, due := dd }) (by simp [Act.eval]) (World.ownsRow_nil _ _ _ _) (w0 := w3) rfl (by simp [Act.eval]) rfl (by simp [Sq.enc, Value.oneCell']) h63 hby (Nat.le_refl _) ?_
  intro v4 w4 hown4 hb4
  have hB4 : Below w1.heap.size w1 w4 := hB3.trans (hb4.mono hB3.size)
  refine hK.out _ _ (by (refine KEEP.out _ ?_; (repeat' (first | assumption | (with_reducible exact Below.refl _ _) | (with_reducible refine Below.drew ?_) | (with_reducible refine Below.alloc ?_ (by first | exact Nat.le_refl _ | (exact Below.size (by assumption)) | (simp; done) | (simp; omega)) _))))) (fun hHeld => ?_)
  clear hK K
  try simp only [Act.put, List.setIfInBounds_toArray, List.set_cons_zero, List.set_cons_succ]
  refine wpAnyH_take (i := 10) (oi := ⟨_, _, _, _, _, _⟩) (v := ?_) rfl (by kernel_rfl) (by kernel_rfl) (by kernel_rfl) (fun _ _ _ h => h) (Or.inl ⟨by rfl, ?_⟩) hHeld ?_
  rotate_left
  · (intro w hSw; (try dsimp only at hSw); go_simp) <;> with_reducible rfl
  try simp only [Act.put, List.setIfInBounds_toArray, List.set_cons_zero, List.set_cons_succ]
  refine wpAnyH_done (by kernel_rfl) ?_ _
  skip
  · have HF := hid (show OneQ W { k.core with tries := 1, due := dd } v4 w4 from one_fin (k := { k with pa := pa, pcap := pcap, tries := 1, due := dd }) (HB1.out.trans (hB3.mono HB1.out.size)) hO3.out (by simpa using hown4) hb4 (Nat.le_refl _) rfl)
    clear hB4 hown4 hb4
    go_wp2_with fail
    go_ret
    exact ⟨_, rfl, by rw [HDD.out]; exact HF.out⟩
end C26
end Go.Proofs.Ytdamnbldimompaa
