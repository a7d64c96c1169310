/- Walks of layer 26 (flight): the closure of Step, what is sent again; no condition. -/
import Derived.Test.YtdamnbldimompaaJ26
import Derived.Deep.DeepCutAuto
namespace Go.Proofs.Ytdamnbldimompaa
open Go.RowKit Go.Peri
open Gen (flat_set set_mid get_mid map_take_snoc owns_at owns_num owns_le owns_below owns_form)
namespace C26
open Sq (rest ixQ atQ total bk benc)
/-- What a batch that is sent again has left. -/
def CutC (W : World) (x : Sq) (B : Nat) (now retry tries : Int) (gv : Value) (wx : World) : Prop := ∃ v, Only [B + 3] W wx ∧ Caps wx B now retry tries v gv ∧ (∃ M, W.heap.size + 1 < M ∧ ∃ (a : Option Addr) (cap : Nat) (k : Sq), v = .slice a 1 cap ∧ bk k = bk x ∧ RowsOf (fun b => M ≤ b ∧ b < wx.heap.size) benc 3 wx (.slice a 1 cap) [k] ∧ k.At (fun b => M ≤ b ∧ b < wx.heap.size) wx) ∧ Blk wx W.heap.size #[.int .i64 x.node, .int .i64 x.seq, .slice x.pa x.sp.length x.pcap, .int .i64 x.tries, .int .i64 x.due] 62 ∧ Blk wx (W.heap.size + 1) #[.int .i64 0, .int .i64 0, .slice none 0 0, .int .i64 0, .int .i64 0] 62
set_option maxRecDepth 100000 in
set_option maxHeartbeats 8000000 in
theorem litC (x : Sq) (B : Nat) (now retry tries : Int) (gv : Value) (W : World) (h : Caps W B now retry tries (.slice none 0 0) gv) (hx : x.At (fun b => b < W.heap.size ∧ (b < B ∨ B + 4 < b)) W) (hge : ¬ clk now < x.due) (htr : ¬ tries ≤ x.tries) (htb : 0 ≤ x.tries ∧ x.tries ≤ 1000000) (hl : x.sp.length ≤ 1000000) :
    Calls Try.prog 46 #[.agg #[.int .i64 x.node, .int .i64 x.seq, .slice x.pa x.sp.length x.pcap, .int .i64 x.tries, .int .i64 x.due], .pointer (some ⟨B, 0, none⟩), .pointer (some ⟨B + 2, 0, none⟩), .pointer (some ⟨B + 4, 0, none⟩), .pointer (some ⟨B + 3, 0, none⟩), .pointer (some ⟨B + 1, 0, none⟩)] W fun e w' => ∃ v, e = .returned (.tuple #[.agg #[.int .i64 x.node, .int .i64 x.seq, .slice x.pa x.sp.length x.pcap, .int .i64 (x.tries + 1), .int .i64 (dueI now retry)], .bool true]) ∧ Only [B + 3] W w' ∧ Hid (Caps w' B now retry tries v gv ∧ BAt w' (bk x) v) := by
  have HCP := hid h
  have hl4 := h.lt
  have HX := hid hx
  clear h hx
  go_enter Try.func46, Try.ntmps46
  go_upto_region 1 with fail
  refine wp_genF ?_
  intro w1 hw1
  have hb1 : Below W.heap.size W w1 := by rw [hw1]; go_grown
  have hk1 : Blk w1 W.heap.size #[.int .i64 x.node, .int .i64 x.seq, .slice x.pa x.sp.length x.pcap, .int .i64 x.tries, .int .i64 x.due] 62 := by rw [hw1]; exact (Blk.new _ _ _).alloc _
  have hk2 : Blk w1 (W.heap.size + 1) #[.int .i64 0, .int .i64 0, .slice none 0 0, .int .i64 0, .int .i64 0] 62 := by rw [hw1]; exact Blk.new' _ _ _ (by simp)
  clear hw1
  have HB1 := hid hb1
  have HK1 := hid hk1
  have HK2 := hid hk2
  have HC1 := hid (HCP.out.later hb1)
  obtain ⟨x0, x1, x2, x3, x4, -⟩ := blk5' hk1
  have c0 := HC1.out.now.cell 0
  simp only [List.getElem?_toArray, List.getElem?_cons_zero] at c0
  have hlx := hk1.lt
  have hlB : B < w1.heap.size := HC1.out.now.lt
  clear hb1 hk1 hk2
  have XC : Hid (∀ z : BW w1, Calls Try.prog 47 #[.int .i64 now] z.val fun e w' => e = .returned (.int .i64 (clk now)) ∧ z.val = w') := hid (fun z => clock_any now z.val)
  have XD := hid (fun w' => due_any now retry w')
  obtain ⟨cl, hcl⟩ : ∃ c, clk now = c := ⟨_, rfl⟩
  rw [hcl] at XC hge
  clear hcl
  obtain ⟨dd, hdd⟩ : ∃ d, dueI now retry = d := ⟨_, rfl⟩
  rw [hdd] at XD
  have HDD := hid hdd
  clear hdd
  have hltf : ¬ cl < x.due := hge
  go_wp2_with fail
  refine wp_region_bw (by kernel_rfl) (by kernel_rfl) ?_
  repeat (go_big_quiet_step ((go_at_call 47; exact bw_same (XC.out _))))
  refine wpQuiet_nil ?_
  rintro w2 ⟨⟨_, hb2⟩, rfl⟩
  have HB2 := hid (HB1.out.trans (hb2.mono HB1.out.size))
  have HK3 := hid (HK1.out.later hb2)
  have HR3 := hid (HK2.out.later hb2)
  have HC2 := hid (HC1.out.later hb2)
  have hl2 := (HK2.out.later hb2).lt
  clear hb2 x0 x1 x2 x3 x4 c0 XC hlx HK1 HK2 HC1 HB1 hlB
  obtain ⟨x0, x1, x2, x3, x4, -⟩ := blk5' HK3.out
  have a0 : w2.cell? ⟨B + 3, 0, none⟩ = some (.slice none 0 0) := HC2.out.ag.cell 0
  have t0 : w2.cell? ⟨B + 2, 0, none⟩ = some (.int .i64 tries) := HC2.out.tries.cell 0
  have hgl : B + 3 < w2.heap.size := HC2.out.ag.lt
  have hgl2 : B + 2 < w2.heap.size := HC2.out.tries.lt
  have h63 : 0 + 1 ≤ maxLen := by decide
  have hby : (0 + 1) * 40 ≤ 140737488355328 := by decide
  have hne : ¬ B + 3 = W.heap.size := by omega
  have KEEP : Hid (∀ w', Only [B + 3] w2 w' → w'.cell? ⟨W.heap.size, 0, none⟩ = some (.int .i64 x.node) ∧ w'.cell? ⟨W.heap.size, 1, none⟩ = some (.int .i64 x.seq) ∧ w'.cell? ⟨W.heap.size, 2, none⟩ = some (.slice x.pa x.sp.length x.pcap)) := hid (fun w' ho =>
    have hk := HK3.out.only ho (by simp; omega)
    ⟨hk.cell 0, hk.cell 1, hk.cell 2⟩)
  have XO : Hid (∀ w', Below w2.heap.size w2 w' → Calls Try.prog 43 #[.agg #[.int .i64 x.node, .int .i64 x.seq, .slice x.pa x.sp.length x.pcap]] w' fun e w'' => ∃ pa pcap, e = .returned (.agg #[.int .i64 x.node, .int .i64 x.seq, .slice pa x.sp.length pcap]) ∧ Below w2.heap.size w2 w'' ∧ w''.cell? ⟨B + 3, 0, none⟩ = some (.slice none 0 0) ∧ w''.frozen? ⟨B + 3, 0, none⟩ = false ∧ B + 3 < w''.heap.size ∧ Hid (OwnK w2.heap.size w'' { x with pa := pa, pcap := pcap })) := hid (fun w' hb => by
    have hbb := HB2.out.trans (hb.mono HB2.out.size)
    refine (own_any (p := (fun b => b < W.heap.size ∧ (b < B ∨ B + 4 < b))) x w' (HX.out.below hbb (fun _ h => h.1)) (fun b hb' => Nat.lt_of_lt_of_le hb'.1 hbb.size) hl).mono ?_
    rintro e w'' ⟨v, rfl, pa, pcap, rfl, hb2, ho⟩
    have hb3 := hb.trans (hb2.mono hb.size)
    exact ⟨pa, pcap, rfl, hb3, (HC2.out.later hb3).ag.cell 0, (HC2.out.later hb3).ag.free 0, (HC2.out.later hb3).ag.lt, ho.le hb.size⟩)
  have HFIN : Hid (∀ w3 w4 pa pcap a4 cap4, Below w2.heap.size w2 w3 → OwnK w2.heap.size w3 { x with pa := pa, pcap := pcap } → w4.ownsRow w3.heap.size 60 3 (.slice a4 1 cap4) (0 + 1) ([] ++ benc { x with pa := pa, pcap := pcap }) → Below w3.heap.size w3 w4 → CutC W x B now retry tries gv (w4.setCell ⟨B + 3, 0, none⟩ (.slice a4 1 cap4))) := hid (fun w3 w4 pa pcap a4 cap4 hb3 ho3 hown hb4 => by
    have hb24 := hb3.trans (hb4.mono hb3.size)
    have ho : Only [B + 3] w4 (w4.setCell ⟨B + 3, 0, none⟩ (.slice a4 1 cap4)) := (Only.refl _ _).setCell (by simp) _
    refine ⟨.slice a4 1 cap4, (Only.of_below (HB2.out.trans (hb24.mono HB2.out.size))).trans ho, (HC2.out.later hb24).setAg _, ?_, (HK3.out.later hb24).only ho (by simp; omega), (HR3.out.later hb24).only ho (by simp; omega)⟩
    have h2 := hb3.size
    have hr : RowsOf (fun b => w3.heap.size ≤ b ∧ b < w4.heap.size) benc 3 w4 (.slice a4 [({ x with pa := pa, pcap := pcap } : Sq)].length cap4) [{ x with pa := pa, pcap := pcap }] := RowsOf.of_owns (l := [{ x with pa := pa, pcap := pcap }]) benc_len (by simpa using hown)
    exact ⟨w2.heap.size, hl2, a4, cap4, { x with pa := pa, pcap := pcap }, rfl, rfl, (RowsOf.only hr ho (fun b hb => ⟨hb.2, by have := hb.1; simp; omega⟩)).imp (fun b hb => ⟨by have := hb.1; omega, Nat.lt_of_lt_of_le hb.2 ho.size⟩), (RowsOf.only (RowsOf.of_owns Sp.enc_length (owns_below ho3 hb4)) ho (fun b hb => ⟨hb.2, by have := hb.1; simp; omega⟩)).imp (fun b hb => ⟨hb.1, Nat.lt_of_lt_of_le hb.2 ho.size⟩)⟩)
  go_upto_region 6 with fail
  go_cut [8] (fun s8 wx => s8 = .bool false ∧ CutC W x B now retry tries gv wx)
  case first =>
    refine wp_region_held_drew (S := (fun w' => w'.cell? ⟨W.heap.size, 0, none⟩ = some (.int .i64 x.node) ∧ w'.cell? ⟨W.heap.size, 1, none⟩ = some (.int .i64 x.seq) ∧ w'.cell? ⟨W.heap.size, 2, none⟩ = some (.slice x.pa x.sp.length x.pcap))) (by kernel_rfl) (by (refine KEEP.out _ ?_; (first | (with_reducible exact Only.of_below (by assumption)) | (with_reducible exact Only.refl _ _) | (with_reducible refine Only.drew ?_; with_reducible exact Only.refl _ _) | (with_reducible refine Only.alloc ?_ _; with_reducible exact Only.of_below (by assumption)) | (with_reducible refine Only.setCell ?_ (by simp) _; with_reducible exact Only.of_below (by assumption))))) (fun hHeld => ?_)
    refine wpAnyH_take (i := 1) (oi := ⟨_, _, _, _, _, _⟩) (v := ?_) rfl (by kernel_rfl) (by kernel_rfl) (by kernel_rfl) (fun _ _ _ h => h) (Or.inl ⟨by rfl, ?_⟩) hHeld ?_
    rotate_left
    · (intro w hSw; (try dsimp only at hSw); go_simp) <;> with_reducible rfl
    try simp only [Act.put, List.setIfInBounds_toArray, List.set_cons_zero, List.set_cons_succ]
    refine wpAnyH_take (i := 2) (oi := ⟨_, _, _, _, _, _⟩) (v := ?_) rfl (by kernel_rfl) (by kernel_rfl) (by kernel_rfl) (fun _ _ _ h => h) (Or.inl ⟨by rfl, ?_⟩) hHeld ?_
    rotate_left
    · (intro w hSw; (try dsimp only at hSw); go_simp) <;> with_reducible rfl
    try simp only [Act.put, List.setIfInBounds_toArray, List.set_cons_zero, List.set_cons_succ]
    refine wpAnyH_ready (rs := [0, 3]) (by kernel_rfl) (by simp) ?_
    refine AllReadyH.cons (o := ⟨_, _, _, _, _, _⟩) rfl (fun K hK => ?_) ?_
    · clear hHeld
      go_simp
      refine hK.out _ _ (by (refine KEEP.out _ ?_; (first | (with_reducible exact Only.of_below (by assumption)) | (with_reducible exact Only.refl _ _) | (with_reducible refine Only.drew ?_; with_reducible exact Only.refl _ _) | (with_reducible refine Only.alloc ?_ _; with_reducible exact Only.of_below (by assumption)) | (with_reducible refine Only.setCell ?_ (by simp) _; with_reducible exact Only.of_below (by assumption))))) (fun hHeld => ?_)
      clear hK K
      try simp only [Act.put, List.setIfInBounds_toArray, List.set_cons_zero, List.set_cons_succ]
      refine wpAnyH_ready (rs := [3]) (by kernel_rfl) (by simp) ?_
      refine AllReadyH.cons (o := ⟨_, _, _, _, _, _⟩) rfl (fun K hK => ?_) AllReadyH.nil
      clear hHeld
      go_simp
      go_at_call 43
      refine (XO.out _ (by first | assumption | exact Below.refl _ _ | exact (Below.refl _ _).drew)).mono ?_
      rintro e w3 ⟨pa, pcap, rfl, hB3, z3, zf3, zl3, hO3⟩
      refine hK.out _ _ (by (refine KEEP.out _ ?_; (first | (with_reducible exact Only.of_below (by assumption)) | (with_reducible exact Only.refl _ _) | (with_reducible refine Only.drew ?_; with_reducible exact Only.refl _ _) | (with_reducible refine Only.alloc ?_ _; with_reducible exact Only.of_below (by assumption)) | (with_reducible refine Only.setCell ?_ (by simp) _; with_reducible exact Only.of_below (by assumption))))) (fun hHeld => ?_)
      clear hK K
      try simp only [Act.put, List.setIfInBounds_toArray, List.set_cons_zero, List.set_cons_succ]
      refine wpAnyH_ready (rs := [4]) (by kernel_rfl) (by simp) ?_
      refine AllReadyH.cons (o := ⟨_, _, _, _, _, _⟩) rfl (fun K hK => ?_) AllReadyH.nil
      clear hHeld
      go_simp
      refine hK.out _ _ (by (refine KEEP.out _ ?_; (first | (with_reducible exact Only.of_below (by assumption)) | (with_reducible exact Only.refl _ _) | (with_reducible refine Only.drew ?_; with_reducible exact Only.refl _ _) | (with_reducible refine Only.alloc ?_ _; with_reducible exact Only.of_below (by assumption)) | (with_reducible refine Only.setCell ?_ (by simp) _; with_reducible exact Only.of_below (by assumption))))) (fun hHeld => ?_)
      clear hK K
      try simp only [Act.put, List.setIfInBounds_toArray, List.set_cons_zero, List.set_cons_succ]
      refine wpAnyH_ready (rs := [5]) (by kernel_rfl) (by simp) ?_
      refine AllReadyH.cons (o := ⟨_, _, _, _, _, _⟩) rfl (fun K hK => ?_) AllReadyH.nil
      clear hHeld
      refine step_push elemB rfl (.tmp 27) (.tmp 31) rfl w3.heap.size (.slice none 0 0) 0 [] (benc { x with pa := pa, pcap := pcap }) (by simp [Act.eval]) (World.ownsRow_nil _ _ _ _) (w0 := w3) rfl (by simp [Act.eval]) rfl (by simp [Sq.benc, Value.oneCell']) h63 hby (Nat.le_refl _) ?_
      intro v4' w4 hown4 hb4
      obtain ⟨a4, cap4, rfl⟩ := owns_form hown4
      have hB4 : Below w2.heap.size w2 w4 := hB3.trans (hb4.mono hB3.size)
      have z4 : w4.cell? ⟨B + 3, 0, none⟩ = some (.slice none 0 0) := (HC2.out.later hB4).ag.cell 0
      have zf4 : w4.frozen? ⟨B + 3, 0, none⟩ = false := (HC2.out.later hB4).ag.free 0
      have hcut := HFIN.out w3 w4 pa pcap a4 cap4 hB3 hO3.out hown4 hb4
      refine hK.out _ _ (by (refine KEEP.out _ ?_; (first | (with_reducible exact Only.of_below (by assumption)) | (with_reducible exact Only.refl _ _) | (with_reducible refine Only.drew ?_; with_reducible exact Only.refl _ _) | (with_reducible refine Only.alloc ?_ _; with_reducible exact Only.of_below (by assumption)) | (with_reducible refine Only.setCell ?_ (by simp) _; with_reducible exact Only.of_below (by assumption))))) (fun hHeld => ?_)
      clear hK K
      try simp only [Act.put, List.setIfInBounds_toArray, List.set_cons_zero, List.set_cons_succ]
      refine wpAnyH_ready (rs := [6]) (by kernel_rfl) (by simp) ?_
      refine AllReadyH.cons (o := ⟨_, _, _, _, _, _⟩) rfl (fun K hK => ?_) AllReadyH.nil
      clear hHeld
      go_simp
      refine hK.out _ _ (by (refine KEEP.out _ ?_; (first | (with_reducible exact Only.of_below (by assumption)) | (with_reducible exact Only.refl _ _) | (with_reducible refine Only.drew ?_; with_reducible exact Only.refl _ _) | (with_reducible refine Only.alloc ?_ _; with_reducible exact Only.of_below (by assumption)) | (with_reducible refine Only.setCell ?_ (by simp) _; with_reducible exact Only.of_below (by assumption))))) (fun hHeld => ?_)
      clear hK K
      try simp only [Act.put, List.setIfInBounds_toArray, List.set_cons_zero, List.set_cons_succ]
      refine wpAnyH_done (by kernel_rfl) ?_ _
      go_wp2_with fail
      go_meet
      case rel => exact ⟨rfl, hcut⟩
    · refine AllReadyH.cons (o := ⟨_, _, _, _, _, _⟩) rfl (fun K hK => ?_) AllReadyH.nil
      clear hHeld
      go_simp
      go_at_call 43
      refine (XO.out _ (by first | assumption | exact Below.refl _ _ | exact (Below.refl _ _).drew)).mono ?_
      rintro e w3 ⟨pa, pcap, rfl, hB3, z3, zf3, zl3, hO3⟩
      refine hK.out _ _ (by (refine KEEP.out _ ?_; (first | (with_reducible exact Only.of_below (by assumption)) | (with_reducible exact Only.refl _ _) | (with_reducible refine Only.drew ?_; with_reducible exact Only.refl _ _) | (with_reducible refine Only.alloc ?_ _; with_reducible exact Only.of_below (by assumption)) | (with_reducible refine Only.setCell ?_ (by simp) _; with_reducible exact Only.of_below (by assumption))))) (fun hHeld => ?_)
      clear hK K
      try simp only [Act.put, List.setIfInBounds_toArray, List.set_cons_zero, List.set_cons_succ]
      refine wpAnyH_ready (rs := [0, 4]) (by kernel_rfl) (by simp) ?_
      refine AllReadyH.cons (o := ⟨_, _, _, _, _, _⟩) rfl (fun K hK => ?_) ?_
      · clear hHeld
        go_simp
        refine hK.out _ _ (by (refine KEEP.out _ ?_; (first | (with_reducible exact Only.of_below (by assumption)) | (with_reducible exact Only.refl _ _) | (with_reducible refine Only.drew ?_; with_reducible exact Only.refl _ _) | (with_reducible refine Only.alloc ?_ _; with_reducible exact Only.of_below (by assumption)) | (with_reducible refine Only.setCell ?_ (by simp) _; with_reducible exact Only.of_below (by assumption))))) (fun hHeld => ?_)
        clear hK K
        try simp only [Act.put, List.setIfInBounds_toArray, List.set_cons_zero, List.set_cons_succ]
        refine wpAnyH_ready (rs := [4]) (by kernel_rfl) (by simp) ?_
        refine AllReadyH.cons (o := ⟨_, _, _, _, _, _⟩) rfl (fun K hK => ?_) AllReadyH.nil
        clear hHeld
        go_simp
        refine hK.out _ _ (by (refine KEEP.out _ ?_; (first | (with_reducible exact Only.of_below (by assumption)) | (with_reducible exact Only.refl _ _) | (with_reducible refine Only.drew ?_; with_reducible exact Only.refl _ _) | (with_reducible refine Only.alloc ?_ _; with_reducible exact Only.of_below (by assumption)) | (with_reducible refine Only.setCell ?_ (by simp) _; with_reducible exact Only.of_below (by assumption))))) (fun hHeld => ?_)
        clear hK K
        try simp only [Act.put, List.setIfInBounds_toArray, List.set_cons_zero, List.set_cons_succ]
        refine wpAnyH_ready (rs := [5]) (by kernel_rfl) (by simp) ?_
        refine AllReadyH.cons (o := ⟨_, _, _, _, _, _⟩) rfl (fun K hK => ?_) AllReadyH.nil
        clear hHeld
        refine step_push elemB rfl (.tmp 27) (.tmp 31) rfl w3.heap.size (.slice none 0 0) 0 [] (benc { x with pa := pa, pcap := pcap }) (by simp [Act.eval]) (World.ownsRow_nil _ _ _ _) (w0 := w3) rfl (by simp [Act.eval]) rfl (by simp [Sq.benc, Value.oneCell']) h63 hby (Nat.le_refl _) ?_
        intro v4' w4 hown4 hb4
        obtain ⟨a4, cap4, rfl⟩ := owns_form hown4
        have hB4 : Below w2.heap.size w2 w4 := hB3.trans (hb4.mono hB3.size)
        have z4 : w4.cell? ⟨B + 3, 0, none⟩ = some (.slice none 0 0) := (HC2.out.later hB4).ag.cell 0
        have zf4 : w4.frozen? ⟨B + 3, 0, none⟩ = false := (HC2.out.later hB4).ag.free 0
        have hcut := HFIN.out w3 w4 pa pcap a4 cap4 hB3 hO3.out hown4 hb4
        refine hK.out _ _ (by (refine KEEP.out _ ?_; (first | (with_reducible exact Only.of_below (by assumption)) | (with_reducible exact Only.refl _ _) | (with_reducible refine Only.drew ?_; with_reducible exact Only.refl _ _) | (with_reducible refine Only.alloc ?_ _; with_reducible exact Only.of_below (by assumption)) | (with_reducible refine Only.setCell ?_ (by simp) _; with_reducible exact Only.of_below (by assumption))))) (fun hHeld => ?_)
        clear hK K
        try simp only [Act.put, List.setIfInBounds_toArray, List.set_cons_zero, List.set_cons_succ]
        refine wpAnyH_ready (rs := [6]) (by kernel_rfl) (by simp) ?_
        refine AllReadyH.cons (o := ⟨_, _, _, _, _, _⟩) rfl (fun K hK => ?_) AllReadyH.nil
        clear hHeld
        go_simp
        refine hK.out _ _ (by (refine KEEP.out _ ?_; (first | (with_reducible exact Only.of_below (by assumption)) | (with_reducible exact Only.refl _ _) | (with_reducible refine Only.drew ?_; with_reducible exact Only.refl _ _) | (with_reducible refine Only.alloc ?_ _; with_reducible exact Only.of_below (by assumption)) | (with_reducible refine Only.setCell ?_ (by simp) _; with_reducible exact Only.of_below (by assumption))))) (fun hHeld => ?_)
        clear hK K
        try simp only [Act.put, List.setIfInBounds_toArray, List.set_cons_zero, List.set_cons_succ]
        refine wpAnyH_done (by kernel_rfl) ?_ _
        go_wp2_with fail
        go_meet
        case rel => exact ⟨rfl, hcut⟩
      · refine AllReadyH.cons (o := ⟨_, _, _, _, _, _⟩) rfl (fun K hK => ?_) AllReadyH.nil
        clear hHeld
        go_simp
        refine hK.out _ _ (by (refine KEEP.out _ ?_; (first | (with_reducible exact Only.of_below (by assumption)) | (with_reducible exact Only.refl _ _) | (with_reducible refine Only.drew ?_; with_reducible exact Only.refl _ _) | (with_reducible refine Only.alloc ?_ _; with_reducible exact Only.of_below (by assumption)) | (with_reducible refine Only.setCell ?_ (by simp) _; with_reducible exact Only.of_below (by assumption))))) (fun hHeld => ?_)
        clear hK K
        try simp only [Act.put, List.setIfInBounds_toArray, List.set_cons_zero, List.set_cons_succ]
        refine wpAnyH_ready (rs := [0]) (by kernel_rfl) (by simp) ?_
        refine AllReadyH.cons (o := ⟨_, _, _, _, _, _⟩) rfl (fun K hK => ?_) AllReadyH.nil
        clear hHeld
        go_simp
        refine hK.out _ _ (by (refine KEEP.out _ ?_; (first | (with_reducible exact Only.of_below (by assumption)) | (with_reducible exact Only.refl _ _) | (with_reducible refine Only.drew ?_; with_reducible exact Only.refl _ _) | (with_reducible refine Only.alloc ?_ _; with_reducible exact Only.of_below (by assumption)) | (with_reducible refine Only.setCell ?_ (by simp) _; with_reducible exact Only.of_below (by assumption))))) (fun hHeld => ?_)
        clear hK K
        try simp only [Act.put, List.setIfInBounds_toArray, List.set_cons_zero, List.set_cons_succ]
        refine wpAnyH_ready (rs := [5]) (by kernel_rfl) (by simp) ?_
        refine AllReadyH.cons (o := ⟨_, _, _, _, _, _⟩) rfl (fun K hK => ?_) AllReadyH.nil
        clear hHeld
        refine step_push elemB rfl (.tmp 27) (.tmp 31) rfl w3.heap.size (.slice none 0 0) 0 [] (benc { x with pa := pa, pcap := pcap }) (by simp [Act.eval]) (World.ownsRow_nil _ _ _ _) (w0 := w3) rfl (by simp [Act.eval]) rfl (by simp [Sq.benc, Value.oneCell']) h63 hby (Nat.le_refl _) ?_
        intro v4' w4 hown4 hb4
        obtain ⟨a4, cap4, rfl⟩ := owns_form hown4
        have hB4 : Below w2.heap.size w2 w4 := hB3.trans (hb4.mono hB3.size)
        have z4 : w4.cell? ⟨B + 3, 0, none⟩ = some (.slice none 0 0) := (HC2.out.later hB4).ag.cell 0
        have zf4 : w4.frozen? ⟨B + 3, 0, none⟩ = false := (HC2.out.later hB4).ag.free 0
        have hcut := HFIN.out w3 w4 pa pcap a4 cap4 hB3 hO3.out hown4 hb4
        refine hK.out _ _ (by (refine KEEP.out _ ?_; (first | (with_reducible exact Only.of_below (by assumption)) | (with_reducible exact Only.refl _ _) | (with_reducible refine Only.drew ?_; with_reducible exact Only.refl _ _) | (with_reducible refine Only.alloc ?_ _; with_reducible exact Only.of_below (by assumption)) | (with_reducible refine Only.setCell ?_ (by simp) _; with_reducible exact Only.of_below (by assumption))))) (fun hHeld => ?_)
        clear hK K
        try simp only [Act.put, List.setIfInBounds_toArray, List.set_cons_zero, List.set_cons_succ]
        refine wpAnyH_ready (rs := [6]) (by kernel_rfl) (by simp) ?_
        refine AllReadyH.cons (o := ⟨_, _, _, _, _, _⟩) rfl (fun K hK => ?_) AllReadyH.nil
        clear hHeld
        go_simp
        refine hK.out _ _ (by (refine KEEP.out _ ?_; (first | (with_reducible exact Only.of_below (by assumption)) | (with_reducible exact Only.refl _ _) | (with_reducible refine Only.drew ?_; with_reducible exact Only.refl _ _) | (with_reducible refine Only.alloc ?_ _; with_reducible exact Only.of_below (by assumption)) | (with_reducible refine Only.setCell ?_ (by simp) _; with_reducible exact Only.of_below (by assumption))))) (fun hHeld => ?_)
        clear hK K
        try simp only [Act.put, List.setIfInBounds_toArray, List.set_cons_zero, List.set_cons_succ]
        refine wpAnyH_done (by kernel_rfl) ?_ _
        go_wp2_with fail
        go_meet
        case rel => exact ⟨rfl, hcut⟩
  case rest =>
    obtain ⟨rfl, hcc⟩ := hcut
    have HL4 := hid hl4
    clear KEEP XO HFIN HB2 HK3 HR3 HC2 x0 x1 x2 x3 x4 a0 t0 hgl hgl2 hl2
    obtain ⟨v, hoc, hcap, hbat, hkx, hky⟩ := hcc
    obtain ⟨x0, x1, x2, x3, x4, xf⟩ := blk5' hkx
    obtain ⟨y0, y1, y2, y3, y4, yf⟩ := blk5' hky
    have n0 : wc.cell? ⟨B, 0, none⟩ = some (.int .i64 now) := hcap.now.cell 0
    have r0 : wc.cell? ⟨B + 1, 0, none⟩ = some (.int .i64 retry) := hcap.retry.cell 0
    have HKX := hid hkx
    have HCA := hid hcap
    have HBA := hid hbat
    have HOC := hid hoc
    have hlx := hkx.lt
    have hly := hky.lt
    have hl4c := hcap.lt
    have KEEP7 : Hid (∀ w', Only [W.heap.size] wc w' → w'.cell? ⟨B, 0, none⟩ = some (.int .i64 now) ∧ w'.cell? ⟨B + 1, 0, none⟩ = some (.int .i64 retry)) := hid (fun w' ho =>
      have hc := HCA.out.only ho (fun b hb => by simp at hb; omega)
      ⟨hc.now.cell 0, hc.retry.cell 0⟩)
    have HFIN7 : Hid (∀ w', Only [W.heap.size, W.heap.size + 1] wc w' → Only [B + 3] W w' ∧ Hid (Caps w' B now retry tries v gv ∧ BAt w' (bk x) v)) := hid (fun w' ho => by
      obtain ⟨M, hM, a5, cap5, k5, e5, q5, r5, t5⟩ := HBA.out
      have h4 := HL4.out
      have ho3 : Only (W.heap.size :: (W.heap.size + 1) :: [B + 3]) W w' := (HOC.out.mono (by simp)).trans (ho.mono (by simp))
      refine ⟨only_cutF (only_cutF ho3 (Nat.le_refl _)) (by omega), hid ⟨HCA.out.only ho (fun b hb => by simp at hb; omega), a5, cap5, k5, e5, q5, ?_, ?_⟩⟩
      · exact (RowsOf.only r5 ho (fun b hb => ⟨hb.2, by have := hb.1; simp; omega⟩)).imp (fun b hb => Nat.lt_of_lt_of_le hb.2 ho.size)
      · exact (t5.only ho (fun b hb => ⟨hb.2, by have := hb.1; simp; omega⟩)).imp (fun b hb => Nat.lt_of_lt_of_le hb.2 ho.size))
    have hw : IntKind.i64.wrap (x.tries + 1) = x.tries + 1 := by rw [IntKind.wrap_i64]; omega
    clear hoc hcap hbat hkx hky
    go_wp2_with fail
    refine wp_region_held_drew (S := (fun w' => w'.cell? ⟨B, 0, none⟩ = some (.int .i64 now) ∧ w'.cell? ⟨B + 1, 0, none⟩ = some (.int .i64 retry))) (by kernel_rfl) (by (refine KEEP7.out _ ?_; (repeat' (first | (with_reducible exact Only.refl _ _) | (with_reducible refine Only.drew ?_) | (with_reducible refine Only.setCell ?_ (by simp) _))))) (fun hHeld => ?_)
    refine wpAnyH_take (i := 0) (oi := ⟨_, _, _, _, _, _⟩) (v := ?_) rfl (by kernel_rfl) (by kernel_rfl) (by kernel_rfl) (fun _ _ _ h => h) (Or.inl ⟨by rfl, ?_⟩) hHeld ?_
    rotate_left
    · (intro w hSw; (try dsimp only at hSw); go_simp) <;> with_reducible rfl
    try simp only [Act.put, List.setIfInBounds_toArray, List.set_cons_zero, List.set_cons_succ]
    refine wpAnyH_take (i := 3) (oi := ⟨_, _, _, _, _, _⟩) (v := ?_) rfl (by kernel_rfl) (by kernel_rfl) (by kernel_rfl) (fun _ _ _ h => h) (Or.inl ⟨by rfl, ?_⟩) hHeld ?_
    rotate_left
    · (intro w hSw; (try dsimp only at hSw); go_simp) <;> with_reducible rfl
    try simp only [Act.put, List.setIfInBounds_toArray, List.set_cons_zero, List.set_cons_succ]
    refine wpAnyH_take (i := 4) (oi := ⟨_, _, _, _, _, _⟩) (v := ?_) rfl (by kernel_rfl) (by kernel_rfl) (by kernel_rfl) (fun _ _ _ h => h) (Or.inl ⟨by rfl, ?_⟩) hHeld ?_
    rotate_left
    · (intro w hSw; (try dsimp only at hSw); go_simp) <;> with_reducible rfl
    try simp only [Act.put, List.setIfInBounds_toArray, List.set_cons_zero, List.set_cons_succ]
    refine wpAnyH_ready (rs := [1, 5]) (by kernel_rfl) (by simp) ?_
    refine AllReadyH.cons (o := ⟨_, _, _, _, _, _⟩) rfl (fun K hK => ?_) ?_
    · clear hHeld
      go_simp
      refine hK.out _ _ (by (refine KEEP7.out _ ?_; (repeat' (first | (with_reducible exact Only.refl _ _) | (with_reducible refine Only.drew ?_) | (with_reducible refine Only.setCell ?_ (by simp) _))))) (fun hHeld => ?_)
      clear hK K
      try simp only [Act.put, List.setIfInBounds_toArray, List.set_cons_zero, List.set_cons_succ]
      refine wpAnyH_take (i := 2) (oi := ⟨_, _, _, _, _, _⟩) (v := ?_) rfl (by kernel_rfl) (by kernel_rfl) (by kernel_rfl) (fun _ _ _ h => h) (Or.inl ⟨by rfl, ?_⟩) hHeld ?_
      rotate_left
      · (intro w hSw; (try dsimp only at hSw); go_simp) <;> with_reducible rfl
      try simp only [Act.put, List.setIfInBounds_toArray, List.set_cons_zero, List.set_cons_succ]
      refine wpAnyH_take (i := 6) (oi := ⟨_, _, _, _, _, _⟩) (v := ?_) rfl (by kernel_rfl) (by kernel_rfl) (by kernel_rfl) (fun _ _ _ h => h) (Or.inl ⟨by rfl, ?_⟩) hHeld ?_
      rotate_left
      · (intro w hSw; (try dsimp only at hSw); go_simp) <;> with_reducible rfl
      try simp only [Act.put, List.setIfInBounds_toArray, List.set_cons_zero, List.set_cons_succ]
      refine wpAnyH_ready (rs := [5]) (by kernel_rfl) (by simp) ?_
      refine AllReadyH.cons (o := ⟨_, _, _, _, _, _⟩) rfl (fun K hK => ?_) AllReadyH.nil
      clear hHeld
      go_simp
      go_at_call 44
      refine (XD.out _).mono ?_
      rintro e w' ⟨rfl, rfl⟩
      refine hK.out _ _ (by (refine KEEP7.out _ ?_; (repeat' (first | (with_reducible exact Only.refl _ _) | (with_reducible refine Only.drew ?_) | (with_reducible refine Only.setCell ?_ (by simp) _))))) (fun hHeld => ?_)
      clear hK K
      try simp only [Act.put, List.setIfInBounds_toArray, List.set_cons_zero, List.set_cons_succ]
      refine wpAnyH_ready (rs := [7]) (by kernel_rfl) (by simp) ?_
      refine AllReadyH.cons (o := ⟨_, _, _, _, _, _⟩) rfl (fun K hK => ?_) AllReadyH.nil
      clear hHeld
      go_simp
      refine hK.out _ _ (by (refine KEEP7.out _ ?_; (repeat' (first | (with_reducible exact Only.refl _ _) | (with_reducible refine Only.drew ?_) | (with_reducible refine Only.setCell ?_ (by simp) _))))) (fun hHeld => ?_)
      clear hK K
      try simp only [Act.put, List.setIfInBounds_toArray, List.set_cons_zero, List.set_cons_succ]
      refine wpAnyH_take (i := 8) (oi := ⟨_, _, _, _, _, _⟩) (v := ?_) rfl (by kernel_rfl) (by kernel_rfl) (by kernel_rfl) (fun _ _ _ h => h) (Or.inl ⟨by rfl, ?_⟩) hHeld ?_
      rotate_left
      · (intro w hSw; (try dsimp only at hSw); go_simp) <;> with_reducible rfl
      try simp only [Act.put, List.setIfInBounds_toArray, List.set_cons_zero, List.set_cons_succ]
      refine wpAnyH_ready (rs := [9]) (by kernel_rfl) (by simp) ?_
      refine AllReadyH.cons (o := ⟨_, _, _, _, _, _⟩) rfl (fun K hK => ?_) AllReadyH.nil
      clear hHeld
      go_simp
      refine hK.out _ _ (by (refine KEEP7.out _ ?_; (repeat' (first | (with_reducible exact Only.refl _ _) | (with_reducible refine Only.drew ?_) | (with_reducible refine Only.setCell ?_ (by simp) _))))) (fun hHeld => ?_)
      clear hK K
      try simp only [Act.put, List.setIfInBounds_toArray, List.set_cons_zero, List.set_cons_succ]
      refine wpAnyH_done (by kernel_rfl) ?_ _
      go_wp2_with fail
      refine bodyPost_ret (by simp [results, Try.results46, go_sem, x0, x1, x2, x3, x4, y0, y1, y2, y3, y4]; try rfl) rfl ?_
      refine ⟨_, by rw [HDD.out], HFIN7.out _ ?_⟩
      repeat' (first | (with_reducible exact Only.refl _ _) | (with_reducible refine Only.drew ?_) | (with_reducible refine Only.setCell ?_ (by simp) _))
    · refine AllReadyH.cons (o := ⟨_, _, _, _, _, _⟩) rfl (fun K hK => ?_) AllReadyH.nil
      clear hHeld
      go_simp
      go_at_call 44
      refine (XD.out _).mono ?_
      rintro e w' ⟨rfl, rfl⟩
      refine hK.out _ _ (by (refine KEEP7.out _ ?_; (repeat' (first | (with_reducible exact Only.refl _ _) | (with_reducible refine Only.drew ?_) | (with_reducible refine Only.setCell ?_ (by simp) _))))) (fun hHeld => ?_)
      clear hK K
      try simp only [Act.put, List.setIfInBounds_toArray, List.set_cons_zero, List.set_cons_succ]
      refine wpAnyH_ready (rs := [1]) (by kernel_rfl) (by simp) ?_
      refine AllReadyH.cons (o := ⟨_, _, _, _, _, _⟩) rfl (fun K hK => ?_) AllReadyH.nil
      clear hHeld
      go_simp
      refine hK.out _ _ (by (refine KEEP7.out _ ?_; (repeat' (first | (with_reducible exact Only.refl _ _) | (with_reducible refine Only.drew ?_) | (with_reducible refine Only.setCell ?_ (by simp) _))))) (fun hHeld => ?_)
      clear hK K
      try simp only [Act.put, List.setIfInBounds_toArray, List.set_cons_zero, List.set_cons_succ]
      refine wpAnyH_take (i := 2) (oi := ⟨_, _, _, _, _, _⟩) (v := ?_) rfl (by kernel_rfl) (by kernel_rfl) (by kernel_rfl) (fun _ _ _ h => h) (Or.inl ⟨by rfl, ?_⟩) hHeld ?_
      rotate_left
      · (intro w hSw; (try dsimp only at hSw); go_simp) <;> with_reducible rfl
      try simp only [Act.put, List.setIfInBounds_toArray, List.set_cons_zero, List.set_cons_succ]
      refine wpAnyH_take (i := 6) (oi := ⟨_, _, _, _, _, _⟩) (v := ?_) rfl (by kernel_rfl) (by kernel_rfl) (by kernel_rfl) (fun _ _ _ h => h) (Or.inl ⟨by rfl, ?_⟩) hHeld ?_
      rotate_left
      · (intro w hSw; (try dsimp only at hSw); go_simp) <;> with_reducible rfl
      try simp only [Act.put, List.setIfInBounds_toArray, List.set_cons_zero, List.set_cons_succ]
      refine wpAnyH_ready (rs := [7]) (by kernel_rfl) (by simp) ?_
      refine AllReadyH.cons (o := ⟨_, _, _, _, _, _⟩) rfl (fun K hK => ?_) AllReadyH.nil
      clear hHeld
      go_simp
      refine hK.out _ _ (by (refine KEEP7.out _ ?_; (repeat' (first | (with_reducible exact Only.refl _ _) | (with_reducible refine Only.drew ?_) | (with_reducible refine Only.setCell ?_ (by simp) _))))) (fun hHeld => ?_)
      clear hK K
      try simp only [Act.put, List.setIfInBounds_toArray, List.set_cons_zero, List.set_cons_succ]
      refine wpAnyH_take (i := 8) (oi := ⟨_, _, _, _, _, _⟩) (v := ?_) rfl (by kernel_rfl) (by kernel_rfl) (by kernel_rfl) (fun _ _ _ h => h) (Or.inl ⟨by rfl, ?_⟩) hHeld ?_
      rotate_left
      · (intro w hSw; (try dsimp only at hSw); go_simp) <;> with_reducible rfl
      try simp only [Act.put, List.setIfInBounds_toArray, List.set_cons_zero, List.set_cons_succ]
      refine wpAnyH_ready (rs := [9]) (by kernel_rfl) (by simp) ?_
      refine AllReadyH.cons (o := ⟨_, _, _, _, _, _⟩) rfl (fun K hK => ?_) AllReadyH.nil
      clear hHeld
      go_simp
      refine hK.out _ _ (by (refine KEEP7.out _ ?_; (repeat' (first | (with_reducible exact Only.refl _ _) | (with_reducible refine Only.drew ?_) | (with_reducible refine Only.setCell ?_ (by simp) _))))) (fun hHeld => ?_)
      clear hK K
      try simp only [Act.put, List.setIfInBounds_toArray, List.set_cons_zero, List.set_cons_succ]
      refine wpAnyH_done (by kernel_rfl) ?_ _
      go_wp2_with fail
      refine bodyPost_ret (by simp [results, Try.results46, go_sem, x0, x1, x2, x3, x4, y0, y1, y2, y3, y4]; try rfl) rfl ?_
      refine ⟨_, by rw [HDD.out], HFIN7.out _ ?_⟩
      repeat' (first | (with_reducible exact Only.refl _ _) | (with_reducible refine Only.drew ?_) | (with_reducible refine Only.setCell ?_ (by simp) _))
end C26
end Go.Proofs.Ytdamnbldimompaa
