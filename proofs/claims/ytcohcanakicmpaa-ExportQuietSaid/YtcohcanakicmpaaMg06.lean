/- Walks of layer 26 (flight): the closure of Step, what is sent again; no condition. Walks of layer 26 (flight): what Step's closure holds, of many batches; what is given up; no condition. Walks of layer 26 (flight): the closure of Step, what is sent again, of many batches; no condition. -/
import Derived.Test.YtcohcanakicmpaaMg05
import Derived.Deep.DeepCutAuto
import Derived.Test.YtcohcanakicmpaaMg03
namespace Go.Proofs.Ytcohcanakicmpaa
open Go.RowKit Go.Peri
open Gen (flat_set set_mid get_mid map_take_snoc owns_at owns_num owns_le owns_below owns_form)
namespace C26
open Sq (rest ixQ atQ total bk benc)
/-- What a batch that is sent again has left. -/
def CutC (W : World) (x : Sq) (B : Nat) (now retry tries : Int) (gv : Value) (wx : World) : Prop := ∃ v, Only [B + 3] W wx ∧ Caps wx B now retry tries v gv ∧ (∃ M, W.heap.size + 1 < M ∧ ∃ (a : Option Addr) (cap : Nat) (k : Sq), v = .slice a 1 cap ∧ bk k = bk x ∧ RowsOf (fun b => M ≤ b ∧ b < wx.heap.size) benc 3 wx (.slice a 1 cap) [k] ∧ k.At (fun b => M ≤ b ∧ b < wx.heap.size) wx) ∧ Blk wx W.heap.size #[.int .i64 x.node, .int .i64 x.seq, .slice x.pa x.sp.length x.pcap, .int .i64 x.tries, .int .i64 x.due] 93 ∧ Blk wx (W.heap.size + 1) #[.int .i64 0, .int .i64 0, .slice none 0 0, .int .i64 0, .int .i64 0] 93
set_option maxRecDepth 100000 in
set_option maxHeartbeats 8000000 in
theorem litC (x : Sq) (B : Nat) (now retry tries : Int) (gv : Value) (W : World) (h : Caps W B now retry tries (.slice none 0 0) gv) (hx : x.At (fun b => b < W.heap.size ∧ (b < B ∨ B + 4 < b)) W) (hge : ¬ clk now < x.due) (htr : ¬ tries ≤ x.tries) (htb : 0 ≤ x.tries ∧ x.tries ≤ 1000000) (hl : x.sp.length ≤ 1000000) :
    Calls Try.prog 76 #[.agg #[.int .i64 x.node, .int .i64 x.seq, .slice x.pa x.sp.length x.pcap, .int .i64 x.tries, .int .i64 x.due], .pointer (some ⟨B, 0, none⟩), .pointer (some ⟨B + 2, 0, none⟩), .pointer (some ⟨B + 4, 0, none⟩), .pointer (some ⟨B + 3, 0, none⟩), .pointer (some ⟨B + 1, 0, none⟩)] W fun e w' => ∃ v, e = .returned (.tuple #[.agg #[.int .i64 x.node, .int .i64 x.seq, .slice x.pa x.sp.length x.pcap, .int .i64 (x.tries + 1), .int .i64 (dueI now retry)], .bool true]) ∧ Only [B + 3] W w' ∧ Hid (Caps w' B now retry tries v gv ∧ BAt w' (bk x) v) := by
  have HCP := hid h
  have hl4 := h.lt
  have HX := hid hx
  clear h hx
  go_enter Try.func76, Try.ntmps76
  go_upto_region 1 with fail
  refine wp_genF ?_
  intro w1 hw1
  have hb1 : Below W.heap.size W w1 := by rw [hw1]; go_grown
  have hk1 : Blk w1 W.heap.size #[.int .i64 x.node, .int .i64 x.seq, .slice x.pa x.sp.length x.pcap, .int .i64 x.tries, .int .i64 x.due] 93 := by rw [hw1]; exact (Blk.new _ _ _).alloc _
  have hk2 : Blk w1 (W.heap.size + 1) #[.int .i64 0, .int .i64 0, .slice none 0 0, .int .i64 0, .int .i64 0] 93 := by rw [hw1]; exact Blk.new' _ _ _ (by simp)
  clear hw1
  have HB1 := hid hb1
  have HK1 := hid hk1
  have HK2 := hid hk2
  have HC1 := hid (HCP.out.later hb1)
  obtain ⟨x0, x1, x2, x3, x4, -⟩ := blk5' hk1
  have c0 := HC1.out.now.cell 0
  simp only [List.getElem?_toArray, List.getElem?_cons_zero] at c0
  have hlx := hk1.lt
  have hlB : B < w1.heap.size := HC1.out.now.lt
  clear hb1 hk1 hk2
  have XC : Hid (∀ z : BW w1, Calls Try.prog 77 #[.int .i64 now] z.val fun e w' => e = .returned (.int .i64 (clk now)) ∧ z.val = w') := hid (fun z => clock_any now z.val)
  have XD := hid (fun w' => due_any now retry w')
  obtain ⟨cl, hcl⟩ : ∃ c, clk now = c := ⟨_, rfl⟩
  rw [hcl] at XC hge
  clear hcl
  obtain ⟨dd, hdd⟩ : ∃ d, dueI now retry = d := ⟨_, rfl⟩
  rw [hdd] at XD
  have HDD := hid hdd
  clear hdd
  have hltf : ¬ cl < x.due := hge
  go_wp2_with fail
  refine wp_region_bw (by kernel_rfl) (by kernel_rfl) ?_
  repeat (go_big_quiet_step ((go_at_call 77; exact bw_same (XC.out _))))
  refine wpQuiet_nil ?_
  rintro w2 ⟨⟨_, hb2⟩, rfl⟩
  have HB2 := hid (HB1.out.trans (hb2.mono HB1.out.size))
  have HK3 := hid (HK1.out.later hb2)
  have HR3 := hid (HK2.out.later hb2)
  have HC2 := hid (HC1.out.later hb2)
  have hl2 := (HK2.out.later hb2).lt
  clear hb2 x0 x1 x2 x3 x4 c0 XC hlx HK1 HK2 HC1 HB1 hlB
  obtain ⟨x0, x1, x2, x3, x4, -⟩ := blk5' HK3.out
  have a0 : w2.cell? ⟨B + 3, 0, none⟩ = some (.slice none 0 0) := HC2.out.ag.cell 0
  have t0 : w2.cell? ⟨B + 2, 0, none⟩ = some (.int .i64 tries) := HC2.out.tries.cell 0
  have hgl : B + 3 < w2.heap.size := HC2.out.ag.lt
  have hgl2 : B + 2 < w2.heap.size := HC2.out.tries.lt
  have h63 : 0 + 1 ≤ maxLen := by decide
  have hby : (0 + 1) * 40 ≤ 140737488355328 := by decide
  have hne : ¬ B + 3 = W.heap.size := by omega
  have KEEP : Hid (∀ w', Only [B + 3] w2 w' → w'.cell? ⟨W.heap.size, 0, none⟩ = some (.int .i64 x.node) ∧ w'.cell? ⟨W.heap.size, 1, none⟩ = some (.int .i64 x.seq) ∧ w'.cell? ⟨W.heap.size, 2, none⟩ = some (.slice x.pa x.sp.length x.pcap)) := hid (fun w' ho =>
    have hk := HK3.out.only ho (by simp; omega)
    ⟨hk.cell 0, hk.cell 1, hk.cell 2⟩)
  have XO : Hid (∀ w', Below w2.heap.size w2 w' → Calls Try.prog 78 #[.agg #[.int .i64 x.node, .int .i64 x.seq, .slice x.pa x.sp.length x.pcap]] w' fun e w'' => ∃ pa pcap, e = .returned (.agg #[.int .i64 x.node, .int .i64 x.seq, .slice pa x.sp.length pcap]) ∧ Below w2.heap.size w2 w'' ∧ w''.cell? ⟨B + 3, 0, none⟩ = some (.slice none 0 0) ∧ w''.frozen? ⟨B + 3, 0, none⟩ = false ∧ B + 3 < w''.heap.size ∧ Hid (OwnK w2.heap.size w'' { x with pa := pa, pcap := pcap })) := hid (fun w' hb => by
    have hbb := HB2.out.trans (hb.mono HB2.out.size)
    refine (own_any (p := (fun b => b < W.heap.size ∧ (b < B ∨ B + 4 < b))) x w' (HX.out.below hbb (fun _ h => h.1)) (fun b hb' => Nat.lt_of_lt_of_le hb'.1 hbb.size) hl).mono ?_
    rintro e w'' ⟨v, rfl, pa, pcap, rfl, hb2, ho⟩
    have hb3 := hb.trans (hb2.mono hb.size)
    exact ⟨pa, pcap, rfl, hb3, (HC2.out.later hb3).ag.cell 0, (HC2.out.later hb3).ag.free 0, (HC2.out.later hb3).ag.lt, ho.le hb.size⟩)
  have HFIN : Hid (∀ w3 w4 pa pcap a4 cap4, Below w2.heap.size w2 w3 → OwnK w2.heap.size w3 { x with pa := pa, pcap := pcap } → w4.ownsRow w3.heap.size 45 3 (.slice a4 1 cap4) (0 + 1) ([] ++ benc { x with pa := pa, pcap := pcap }) → Below w3.heap.size w3 w4 → CutC W x B now retry tries gv (w4.setCell ⟨B + 3, 0, none⟩ (.slice a4 1 cap4))) := hid (fun w3 w4 pa pcap a4 cap4 hb3 ho3 hown hb4 => by
    have hb24 := hb3.trans (hb4.mono hb3.size)
    have ho : Only [B + 3] w4 (w4.setCell ⟨B + 3, 0, none⟩ (.slice a4 1 cap4)) := (Only.refl _ _).setCell (by simp) _
    refine ⟨.slice a4 1 cap4, (Only.of_below (HB2.out.trans (hb24.mono HB2.out.size))).trans ho, (HC2.out.later hb24).setAg _, ?_, (HK3.out.later hb24).only ho (by simp; omega), (HR3.out.later hb24).only ho (by simp; omega)⟩
    have h2 := hb3.size
    have hr : RowsOf (fun b => w3.heap.size ≤ b ∧ b < w4.heap.size) benc 3 w4 (.slice a4 [({ x with pa := pa, pcap := pcap } : Sq)].length cap4) [{ x with pa := pa, pcap := pcap }] := RowsOf.of_owns (l := [{ x with pa := pa, pcap := pcap }]) benc_len (by simpa using hown)
    exact ⟨w2.heap.size, hl2, a4, cap4, { x with pa := pa, pcap := pcap }, rfl, rfl, (RowsOf.only hr ho (fun b hb => ⟨hb.2, by have := hb.1; simp; omega⟩)).imp (fun b hb => ⟨by have := hb.1; omega, Nat.lt_of_lt_of_le hb.2 ho.size⟩), (RowsOf.only (RowsOf.of_owns Sp.enc_length (owns_below ho3 hb4)) ho (fun b hb => ⟨hb.2, by have := hb.1; simp; omega⟩)).imp (fun b hb => ⟨hb.1, Nat.lt_of_lt_of_le hb.2 ho.size⟩)⟩)
  go_upto_region 6 with fail
  go_cut [8] (fun s8 wx => s8 = .bool false ∧ CutC W x B now retry tries gv wx)
  case first =>
    refine wp_region_held_drew (S := (fun w' => w'.cell? ⟨W.heap.size, 0, none⟩ = some (.int .i64 x.node) ∧ w'.cell? ⟨W.heap.size, 1, none⟩ = some (.int .i64 x.seq) ∧ w'.cell? ⟨W.heap.size, 2, none⟩ = some (.slice x.pa x.sp.length x.pcap))) (by kernel_rfl) (by (refine KEEP.out _ ?_; (first | (with_reducible exact Only.of_below (by assumption)) | (with_reducible exact Only.refl _ _) | (with_reducible refine Only.drew ?_; with_reducible exact Only.refl _ _) | (with_reducible refine Only.alloc ?_ _; with_reducible exact Only.of_below (by assumption)) | (with_reducible refine Only.setCell ?_ (by simp) _; with_reducible exact Only.of_below (by assumption))))) (fun hHeld => ?_)
    refine wpAnyH_take (i := 1) (oi := ⟨_, _, _, _, _, _⟩) (v := ?_) rfl (by kernel_rfl) (by kernel_rfl) (by kernel_rfl) (fun _ _ _ h => h) (Or.inl ⟨by rfl, ?_⟩) hHeld ?_
    rotate_left
    · (intro w hSw; (try dsimp only at hSw); go_simp) <;> with_reducible rfl
    try simp only [Act.put, List.setIfInBounds_toArray, List.set_cons_zero, List.set_cons_succ]
    refine wpAnyH_take (i := 2) (oi := ⟨_, _, _, _, _, _⟩) (v := ?_) rfl (by kernel_rfl) (by kernel_rfl) (by kernel_rfl) (fun _ _ _ h => h) (Or.inl ⟨by rfl, ?_⟩) hHeld ?_
    rotate_left
    · (intro w hSw; (try dsimp only at hSw); go_simp) <;> with_reducible rfl
    try simp only [Act.put, List.setIfInBounds_toArray, List.set_cons_zero, List.set_cons_succ]
    refine wpAnyH_ready (rs := [0, 3]) (by kernel_rfl) (by simp) ?_
    refine AllReadyH.cons (o := ⟨_, _, _, _, _, _⟩) rfl (fun K hK => ?_) ?_
    · clear hHeld
      go_simp
      refine hK.out _ _ (by (refine KEEP.out _ ?_; (first | (with_reducible exact Only.of_below (by assumption)) | (with_reducible exact Only.refl _ _) | (with_reducible refine Only.drew ?_; with_reducible exact Only.refl _ _) | (with_reducible refine Only.alloc ?_ _; with_reducible exact Only.of_below (by assumption)) | (with_reducible refine Only.setCell ?_ (by simp) _; with_reducible exact Only.of_below (by assumption))))) (fun hHeld => ?_)
      clear hK K
      try simp only [Act.put, List.setIfInBounds_toArray, List.set_cons_zero, List.set_cons_succ]
      refine wpAnyH_ready (rs := [3]) (by kernel_rfl) (by simp) ?_
      refine AllReadyH.cons (o := ⟨_, _, _, _, _, _⟩) rfl (fun K hK => ?_) AllReadyH.nil
      clear hHeld
      go_simp
      go_at_call 78
      refine (XO.out _ (by first | assumption | exact Below.refl _ _ | exact (Below.refl _ _).drew)).mono ?_
      rintro e w3 ⟨pa, pcap, rfl, hB3, z3, zf3, zl3, hO3⟩
      refine hK.out _ _ (by (refine KEEP.out _ ?_; (first | (with_reducible exact Only.of_below (by assumption)) | (with_reducible exact Only.refl _ _) | (with_reducible refine Only.drew ?_; with_reducible exact Only.refl _ _) | (with_reducible refine Only.alloc ?_ _; with_reducible exact Only.of_below (by assumption)) | (with_reducible refine Only.setCell ?_ (by simp) _; with_reducible exact Only.of_below (by assumption))))) (fun hHeld => ?_)
      clear hK K
      try simp only [Act.put, List.setIfInBounds_toArray, List.set_cons_zero, List.set_cons_succ]
      refine wpAnyH_ready (rs := [4]) (by kernel_rfl) (by simp) ?_
      refine AllReadyH.cons (o := ⟨_, _, _, _, _, _⟩) rfl (fun K hK => ?_) AllReadyH.nil
      clear hHeld
      go_simp
      refine hK.out _ _ (by (refine KEEP.out _ ?_; (first | (with_reducible exact Only.of_below (by assumption)) | (with_reducible exact Only.refl _ _) | (with_reducible refine Only.drew ?_; with_reducible exact Only.refl _ _) | (with_reducible refine Only.alloc ?_ _; with_reducible exact Only.of_below (by assumption)) | (with_reducible refine Only.setCell ?_ (by simp) _; with_reducible exact Only.of_below (by assumption))))) (fun hHeld => ?_)
      clear hK K
      try simp only [Act.put, List.setIfInBounds_toArray, List.set_cons_zero, List.set_cons_succ]
      refine wpAnyH_ready (rs := [5]) (by kernel_rfl) (by simp) ?_
      refine AllReadyH.cons (o := ⟨_, _, _, _, _, _⟩) rfl (fun K hK => ?_) AllReadyH.nil
      clear hHeld
      refine step_push elemB rfl (.tmp 27) (.tmp 31) rfl w3.heap.size (.slice none 0 0) 0 [] (benc { x with pa := pa, pcap := pcap }) (by simp [Act.eval]) (World.ownsRow_nil _ _ _ _) (w0 := w3) rfl (by simp [Act.eval]) rfl (by simp [Sq.benc, Value.oneCell']) h63 hby (Nat.le_refl _) ?_
      intro v4' w4 hown4 hb4
      obtain ⟨a4, cap4, rfl⟩ := Gen.owns_form hown4
      have hB4 : Below w2.heap.size w2 w4 := hB3.trans (hb4.mono hB3.size)
      have z4 : w4.cell? ⟨B + 3, 0, none⟩ = some (.slice none 0 0) := (HC2.out.later hB4).ag.cell 0
      have zf4 : w4.frozen? ⟨B + 3, 0, none⟩ = false := (HC2.out.later hB4).ag.free 0
      have hcut := HFIN.out w3 w4 pa pcap a4 cap4 hB3 hO3.out hown4 hb4
      refine hK.out _ _ (by (refine KEEP.out _ ?_; (first | (with_reducible exact Only.of_below (by assumption)) | (with_reducible exact Only.refl _ _) | (with_reducible refine Only.drew ?_; with_reducible exact Only.refl _ _) | (with_reducible refine Only.alloc ?_ _; with_reducible exact Only.of_below (by assumption)) | (with_reducible refine Only.setCell ?_ (by simp) _; with_reducible exact Only.of_below (by assumption))))) (fun hHeld => ?_)
      clear hK K
      try simp only [Act.put, List.setIfInBounds_toArray, List.set_cons_zero, List.set_cons_succ]
      refine wpAnyH_ready (rs := [6]) (by kernel_rfl) (by simp) ?_
      refine AllReadyH.cons (o := ⟨_, _, _, _, _, _⟩) rfl (fun K hK => ?_) AllReadyH.nil
      clear hHeld
      go_simp
      refine hK.out _ _ (by (refine KEEP.out _ ?_; (first | (with_reducible exact Only.of_below (by assumption)) | (with_reducible exact Only.refl _ _) | (with_reducible refine Only.drew ?_; with_reducible exact Only.refl _ _) | (with_reducible refine Only.alloc ?_ _; with_reducible exact Only.of_below (by assumption)) | (with_reducible refine Only.setCell ?_ (by simp) _; with_reducible exact Only.of_below (by assumption))))) (fun hHeld => ?_)
      clear hK K
      try simp only [Act.put, List.setIfInBounds_toArray, List.set_cons_zero, List.set_cons_succ]
      refine wpAnyH_done (by kernel_rfl) ?_ _
      go_wp2_with fail
      go_meet
      case rel => exact ⟨rfl, hcut⟩
    · refine AllReadyH.cons (o := ⟨_, _, _, _, _, _⟩) rfl (fun K hK => ?_) AllReadyH.nil
      clear hHeld
      go_simp
      go_at_call 78
      refine (XO.out _ (by first | assumption | exact Below.refl _ _ | exact (Below.refl _ _).drew)).mono ?_
      rintro e w3 ⟨pa, pcap, rfl, hB3, z3, zf3, zl3, hO3⟩
      refine hK.out _ _ (by (refine KEEP.out _ ?_; (first | (with_reducible exact Only.of_below (by assumption)) | (with_reducible exact Only.refl _ _) | (with_reducible refine Only.drew ?_; with_reducible exact Only.refl _ _) | (with_reducible refine Only.alloc ?_ _; with_reducible exact Only.of_below (by assumption)) | (with_reducible refine Only.setCell ?_ (by simp) _; with_reducible exact Only.of_below (by assumption))))) (fun hHeld => ?_)
      clear hK K
      try simp only [Act.put, List.setIfInBounds_toArray, List.set_cons_zero, List.set_cons_succ]
      refine wpAnyH_ready (rs := [0, 4]) (by kernel_rfl) (by simp) ?_
      refine AllReadyH.cons (o := ⟨_, _, _, _, _, _⟩) rfl (fun K hK => ?_) ?_
      · clear hHeld
        go_simp
        refine hK.out _ _ (by (refine KEEP.out _ ?_; (first | (with_reducible exact Only.of_below (by assumption)) | (with_reducible exact Only.refl _ _) | (with_reducible refine Only.drew ?_; with_reducible exact Only.refl _ _) | (with_reducible refine Only.alloc ?_ _; with_reducible exact Only.of_below (by assumption)) | (with_reducible refine Only.setCell ?_ (by simp) _; with_reducible exact Only.of_below (by assumption))))) (fun hHeld => ?_)
        clear hK K
        try simp only [Act.put, List.setIfInBounds_toArray, List.set_cons_zero, List.set_cons_succ]
        refine wpAnyH_ready (rs := [4]) (by kernel_rfl) (by simp) ?_
        refine AllReadyH.cons (o := ⟨_, _, _, _, _, _⟩) rfl (fun K hK => ?_) AllReadyH.nil
        clear hHeld
        go_simp
        refine hK.out _ _ (by (refine KEEP.out _ ?_; (first | (with_reducible exact Only.of_below (by assumption)) | (with_reducible exact Only.refl _ _) | (with_reducible refine Only.drew ?_; with_reducible exact Only.refl _ _) | (with_reducible refine Only.alloc ?_ _; with_reducible exact Only.of_below (by assumption)) | (with_reducible refine Only.setCell ?_ (by simp) _; with_reducible exact Only.of_below (by assumption))))) (fun hHeld => ?_)
        clear hK K
        try simp only [Act.put, List.setIfInBounds_toArray, List.set_cons_zero, List.set_cons_succ]
        refine wpAnyH_ready (rs := [5]) (by kernel_rfl) (by simp) ?_
        refine AllReadyH.cons (o := ⟨_, _, _, _, _, _⟩) rfl (fun K hK => ?_) AllReadyH.nil
        clear hHeld
        refine step_push elemB rfl (.tmp 27) (.tmp 31) rfl w3.heap.size (.slice none 0 0) 0 [] (benc { x with pa := pa, pcap := pcap }) (by simp [Act.eval]) (World.ownsRow_nil _ _ _ _) (w0 := w3) rfl (by simp [Act.eval]) rfl (by simp [Sq.benc, Value.oneCell']) h63 hby (Nat.le_refl _) ?_
        intro v4' w4 hown4 hb4
        obtain ⟨a4, cap4, rfl⟩ := Gen.owns_form hown4
        have hB4 : Below w2.heap.size w2 w4 := hB3.trans (hb4.mono hB3.size)
        have z4 : w4.cell? ⟨B + 3, 0, none⟩ = some (.slice none 0 0) := (HC2.out.later hB4).ag.cell 0
        have zf4 : w4.frozen? ⟨B + 3, 0, none⟩ = false := (HC2.out.later hB4).ag.free 0
        have hcut := HFIN.out w3 w4 pa pcap a4 cap4 hB3 hO3.out hown4 hb4
        refine hK.out _ _ (by (refine KEEP.out _ ?_; (first | (with_reducible exact Only.of_below (by assumption)) | (with_reducible exact Only.refl _ _) | (with_reducible refine Only.drew ?_; with_reducible exact Only.refl _ _) | (with_reducible refine Only.alloc ?_ _; with_reducible exact Only.of_below (by assumption)) | (with_reducible refine Only.setCell ?_ (by simp) _; with_reducible exact Only.of_below (by assumption))))) (fun hHeld => ?_)
        clear hK K
        try simp only [Act.put, List.setIfInBounds_toArray, List.set_cons_zero, List.set_cons_succ]
        refine wpAnyH_ready (rs := [6]) (by kernel_rfl) (by simp) ?_
        refine AllReadyH.cons (o := ⟨_, _, _, _, _, _⟩) rfl (fun K hK => ?_) AllReadyH.nil
        clear hHeld
        go_simp
        refine hK.out _ _ (by (refine KEEP.out _ ?_; (first | (with_reducible exact Only.of_below (by assumption)) | (with_reducible exact Only.refl _ _) | (with_reducible refine Only.drew ?_; with_reducible exact Only.refl _ _) | (with_reducible refine Only.alloc ?_ _; with_reducible exact Only.of_below (by assumption)) | (with_reducible refine Only.setCell ?_ (by simp) _; with_reducible exact Only.of_below (by assumption))))) (fun hHeld => ?_)
        clear hK K
        try simp only [Act.put, List.setIfInBounds_toArray, List.set_cons_zero, List.set_cons_succ]
        refine wpAnyH_done (by kernel_rfl) ?_ _
        go_wp2_with fail
        go_meet
        case rel => exact ⟨rfl, hcut⟩
      · refine AllReadyH.cons (o := ⟨_, _, _, _, _, _⟩) rfl (fun K hK => ?_) AllReadyH.nil
        clear hHeld
        go_simp
        refine hK.out _ _ (by (refine KEEP.out _ ?_; (first | (with_reducible exact Only.of_below (by assumption)) | (with_reducible exact Only.refl _ _) | (with_reducible refine Only.drew ?_; with_reducible exact Only.refl _ _) | (with_reducible refine Only.alloc ?_ _; with_reducible exact Only.of_below (by assumption)) | (with_reducible refine Only.setCell ?_ (by simp) _; with_reducible exact Only.of_below (by assumption))))) (fun hHeld => ?_)
        clear hK K
        try simp only [Act.put, List.setIfInBounds_toArray, List.set_cons_zero, List.set_cons_succ]
        refine wpAnyH_ready (rs := [0]) (by kernel_rfl) (by simp) ?_
        refine AllReadyH.cons (o := ⟨_, _, _, _, _, _⟩) rfl (fun K hK => ?_) AllReadyH.nil
        clear hHeld
        go_simp
        refine hK.out _ _ (by (refine KEEP.out _ ?_; (first | (with_reducible exact Only.of_below (by assumption)) | (with_reducible exact Only.refl _ _) | (with_reducible refine Only.drew ?_; with_reducible exact Only.refl _ _) | (with_reducible refine Only.alloc ?_ _; with_reducible exact Only.of_below (by assumption)) | (with_reducible refine Only.setCell ?_ (by simp) _; with_reducible exact Only.of_below (by assumption))))) (fun hHeld => ?_)
        clear hK K
        try simp only [Act.put, List.setIfInBounds_toArray, List.set_cons_zero, List.set_cons_succ]
        refine wpAnyH_ready (rs := [5]) (by kernel_rfl) (by simp) ?_
        refine AllReadyH.cons (o := ⟨_, _, _, _, _, _⟩) rfl (fun K hK => ?_) AllReadyH.nil
        clear hHeld
        refine step_push elemB rfl (.tmp 27) (.tmp 31) rfl w3.heap.size (.slice none 0 0) 0 [] (benc { x with pa := pa, pcap := pcap }) (by simp [Act.eval]) (World.ownsRow_nil _ _ _ _) (w0 := w3) rfl (by simp [Act.eval]) rfl (by simp [Sq.benc, Value.oneCell']) h63 hby (Nat.le_refl _) ?_
        intro v4' w4 hown4 hb4
        obtain ⟨a4, cap4, rfl⟩ := Gen.owns_form hown4
        have hB4 : Below w2.heap.size w2 w4 := hB3.trans (hb4.mono hB3.size)
        have z4 : w4.cell? ⟨B + 3, 0, none⟩ = some (.slice none 0 0) := (HC2.out.later hB4).ag.cell 0
        have zf4 : w4.frozen? ⟨B + 3, 0, none⟩ = false := (HC2.out.later hB4).ag.free 0
        have hcut := HFIN.out w3 w4 pa pcap a4 cap4 hB3 hO3.out hown4 hb4
        refine hK.out _ _ (by (refine KEEP.out _ ?_; (first | (with_reducible exact Only.of_below (by assumption)) | (with_reducible exact Only.refl _ _) | (with_reducible refine Only.drew ?_; with_reducible exact Only.refl _ _) | (with_reducible refine Only.alloc ?_ _; with_reducible exact Only.of_below (by assumption)) | (with_reducible refine Only.setCell ?_ (by simp) _; with_reducible exact Only.of_below (by assumption))))) (fun hHeld => ?_)
        clear hK K
        try simp only [Act.put, List.setIfInBounds_toArray, List.set_cons_zero, List.set_cons_succ]
        refine wpAnyH_ready (rs := [6]) (by kernel_rfl) (by simp) ?_
        refine AllReadyH.cons (o := ⟨_, _, _, _, _, _⟩) rfl (fun K hK => ?_) AllReadyH.nil
        clear hHeld
        go_simp
        refine hK.out _ _ (by (refine KEEP.out _ ?_; (first | (with_reducible exact Only.of_below (by assumption)) | (with_reducible exact Only.refl _ _) | (with_reducible refine Only.drew ?_; with_reducible exact Only.refl _ _) | (with_reducible refine Only.alloc ?_ _; with_reducible exact Only.of_below (by assumption)) | (with_reducible refine Only.setCell ?_ (by simp) _; with_reducible exact Only.of_below (by assumption))))) (fun hHeld => ?_)
        clear hK K
        try simp only [Act.put, List.setIfInBounds_toArray, List.set_cons_zero, List.set_cons_succ]
        refine wpAnyH_done (by kernel_rfl) ?_ _
        go_wp2_with fail
        go_meet
        case rel => exact ⟨rfl, hcut⟩
  case rest =>
    obtain ⟨rfl, hcc⟩ := hcut
    have HL4 := hid hl4
    clear KEEP XO HFIN HB2 HK3 HR3 HC2 x0 x1 x2 x3 x4 a0 t0 hgl hgl2 hl2
    obtain ⟨v, hoc, hcap, hbat, hkx, hky⟩ := hcc
    obtain ⟨x0, x1, x2, x3, x4, xf⟩ := blk5' hkx
    obtain ⟨y0, y1, y2, y3, y4, yf⟩ := blk5' hky
    have n0 : wc.cell? ⟨B, 0, none⟩ = some (.int .i64 now) := hcap.now.cell 0
    have r0 : wc.cell? ⟨B + 1, 0, none⟩ = some (.int .i64 retry) := hcap.retry.cell 0
    have HKX := hid hkx
    have HCA := hid hcap
    have HBA := hid hbat
    have HOC := hid hoc
    have hlx := hkx.lt
    have hly := hky.lt
    have hl4c := hcap.lt
    have KEEP7 : Hid (∀ w', Only [W.heap.size] wc w' → w'.cell? ⟨B, 0, none⟩ = some (.int .i64 now) ∧ w'.cell? ⟨B + 1, 0, none⟩ = some (.int .i64 retry)) := hid (fun w' ho =>
      have hc := HCA.out.only ho (fun b hb => by simp at hb; omega)
      ⟨hc.now.cell 0, hc.retry.cell 0⟩)
    have HFIN7 : Hid (∀ w', Only [W.heap.size, W.heap.size + 1] wc w' → Only [B + 3] W w' ∧ Hid (Caps w' B now retry tries v gv ∧ BAt w' (bk x) v)) := hid (fun w' ho => by
      obtain ⟨M, hM, a5, cap5, k5, e5, q5, r5, t5⟩ := HBA.out
      have h4 := HL4.out
      have ho3 : Only (W.heap.size :: (W.heap.size + 1) :: [B + 3]) W w' := (HOC.out.mono (by simp)).trans (ho.mono (by simp))
      refine ⟨only_cutF (only_cutF ho3 (Nat.le_refl _)) (by omega), hid ⟨HCA.out.only ho (fun b hb => by simp at hb; omega), a5, cap5, k5, e5, q5, ?_, ?_⟩⟩
      · exact (RowsOf.only r5 ho (fun b hb => ⟨hb.2, by have := hb.1; simp; omega⟩)).imp (fun b hb => Nat.lt_of_lt_of_le hb.2 ho.size)
      · exact (t5.only ho (fun b hb => ⟨hb.2, by have := hb.1; simp; omega⟩)).imp (fun b hb => Nat.lt_of_lt_of_le hb.2 ho.size))
    have hw : IntKind.i64.wrap (x.tries + 1) = x.tries + 1 := by rw [IntKind.wrap_i64]; omega
    clear hoc hcap hbat hkx hky
    go_wp2_with fail
    refine wp_region_held_drew (S := (fun w' => w'.cell? ⟨B, 0, none⟩ = some (.int .i64 now) ∧ w'.cell? ⟨B + 1, 0, none⟩ = some (.int .i64 retry))) (by kernel_rfl) (by (refine KEEP7.out _ ?_; (repeat' (first | (with_reducible exact Only.refl _ _) | (with_reducible refine Only.drew ?_) | (with_reducible refine Only.setCell ?_ (by simp) _))))) (fun hHeld => ?_)
    refine wpAnyH_take (i := 0) (oi := ⟨_, _, _, _, _, _⟩) (v := ?_) rfl (by kernel_rfl) (by kernel_rfl) (by kernel_rfl) (fun _ _ _ h => h) (Or.inl ⟨by rfl, ?_⟩) hHeld ?_
    rotate_left
    · (intro w hSw; (try dsimp only at hSw); go_simp) <;> with_reducible rfl
    try simp only [Act.put, List.setIfInBounds_toArray, List.set_cons_zero, List.set_cons_succ]
    refine wpAnyH_take (i := 3) (oi := ⟨_, _, _, _, _, _⟩) (v := ?_) rfl (by kernel_rfl) (by kernel_rfl) (by kernel_rfl) (fun _ _ _ h => h) (Or.inl ⟨by rfl, ?_⟩) hHeld ?_
    rotate_left
    · (intro w hSw; (try dsimp only at hSw); go_simp) <;> with_reducible rfl
    try simp only [Act.put, List.setIfInBounds_toArray, List.set_cons_zero, List.set_cons_succ]
    refine wpAnyH_take (i := 4) (oi := ⟨_, _, _, _, _, _⟩) (v := ?_) rfl (by kernel_rfl) (by kernel_rfl) (by kernel_rfl) (fun _ _ _ h => h) (Or.inl ⟨by rfl, ?_⟩) hHeld ?_
    rotate_left
    · (intro w hSw; (try dsimp only at hSw); go_simp) <;> with_reducible rfl
    try simp only [Act.put, List.setIfInBounds_toArray, List.set_cons_zero, List.set_cons_succ]
    refine wpAnyH_ready (rs := [1, 5]) (by kernel_rfl) (by simp) ?_
    refine AllReadyH.cons (o := ⟨_, _, _, _, _, _⟩) rfl (fun K hK => ?_) ?_
    · clear hHeld
      go_simp
      refine hK.out _ _ (by (refine KEEP7.out _ ?_; (repeat' (first | (with_reducible exact Only.refl _ _) | (with_reducible refine Only.drew ?_) | (with_reducible refine Only.setCell ?_ (by simp) _))))) (fun hHeld => ?_)
      clear hK K
      try simp only [Act.put, List.setIfInBounds_toArray, List.set_cons_zero, List.set_cons_succ]
      refine wpAnyH_take (i := 2) (oi := ⟨_, _, _, _, _, _⟩) (v := ?_) rfl (by kernel_rfl) (by kernel_rfl) (by kernel_rfl) (fun _ _ _ h => h) (Or.inl ⟨by rfl, ?_⟩) hHeld ?_
      rotate_left
      · (intro w hSw; (try dsimp only at hSw); go_simp) <;> with_reducible rfl
      try simp only [Act.put, List.setIfInBounds_toArray, List.set_cons_zero, List.set_cons_succ]
      refine wpAnyH_take (i := 6) (oi := ⟨_, _, _, _, _, _⟩) (v := ?_) rfl (by kernel_rfl) (by kernel_rfl) (by kernel_rfl) (fun _ _ _ h => h) (Or.inl ⟨by rfl, ?_⟩) hHeld ?_
      rotate_left
      · (intro w hSw; (try dsimp only at hSw); go_simp) <;> with_reducible rfl
      try simp only [Act.put, List.setIfInBounds_toArray, List.set_cons_zero, List.set_cons_succ]
      refine wpAnyH_ready (rs := [5]) (by kernel_rfl) (by simp) ?_
      refine AllReadyH.cons (o := ⟨_, _, _, _, _, _⟩) rfl (fun K hK => ?_) AllReadyH.nil
      clear hHeld
      go_simp
      go_at_call 79
      refine (XD.out _).mono ?_
      rintro e w' ⟨rfl, rfl⟩
      refine hK.out _ _ (by (refine KEEP7.out _ ?_; (repeat' (first | (with_reducible exact Only.refl _ _) | (with_reducible refine Only.drew ?_) | (with_reducible refine Only.setCell ?_ (by simp) _))))) (fun hHeld => ?_)
      clear hK K
      try simp only [Act.put, List.setIfInBounds_toArray, List.set_cons_zero, List.set_cons_succ]
      refine wpAnyH_ready (rs := [7]) (by kernel_rfl) (by simp) ?_
      refine AllReadyH.cons (o := ⟨_, _, _, _, _, _⟩) rfl (fun K hK => ?_) AllReadyH.nil
      clear hHeld
      go_simp
      refine hK.out _ _ (by (refine KEEP7.out _ ?_; (repeat' (first | (with_reducible exact Only.refl _ _) | (with_reducible refine Only.drew ?_) | (with_reducible refine Only.setCell ?_ (by simp) _))))) (fun hHeld => ?_)
      clear hK K
      try simp only [Act.put, List.setIfInBounds_toArray, List.set_cons_zero, List.set_cons_succ]
      refine wpAnyH_take (i := 8) (oi := ⟨_, _, _, _, _, _⟩) (v := ?_) rfl (by kernel_rfl) (by kernel_rfl) (by kernel_rfl) (fun _ _ _ h => h) (Or.inl ⟨by rfl, ?_⟩) hHeld ?_
      rotate_left
      · (intro w hSw; (try dsimp only at hSw); go_simp) <;> with_reducible rfl
      try simp only [Act.put, List.setIfInBounds_toArray, List.set_cons_zero, List.set_cons_succ]
      refine wpAnyH_ready (rs := [9]) (by kernel_rfl) (by simp) ?_
      refine AllReadyH.cons (o := ⟨_, _, _, _, _, _⟩) rfl (fun K hK => ?_) AllReadyH.nil
      clear hHeld
      go_simp
      refine hK.out _ _ (by (refine KEEP7.out _ ?_; (repeat' (first | (with_reducible exact Only.refl _ _) | (with_reducible refine Only.drew ?_) | (with_reducible refine Only.setCell ?_ (by simp) _))))) (fun hHeld => ?_)
      clear hK K
      try simp only [Act.put, List.setIfInBounds_toArray, List.set_cons_zero, List.set_cons_succ]
      refine wpAnyH_done (by kernel_rfl) ?_ _
      go_wp2_with fail
      refine bodyPost_ret (by simp [results, Try.results76, go_sem, x0, x1, x2, x3, x4, y0, y1, y2, y3, y4]; try rfl) rfl ?_
      refine ⟨_, by rw [HDD.out], HFIN7.out _ ?_⟩
      repeat' (first | (with_reducible exact Only.refl _ _) | (with_reducible refine Only.drew ?_) | (with_reducible refine Only.setCell ?_ (by simp) _))
    · refine AllReadyH.cons (o := ⟨_, _, _, _, _, _⟩) rfl (fun K hK => ?_) AllReadyH.nil
      clear hHeld
      go_simp
      go_at_call 79
      refine (XD.out _).mono ?_
      rintro e w' ⟨rfl, rfl⟩
      refine hK.out _ _ (by (refine KEEP7.out _ ?_; (repeat' (first | (with_reducible exact Only.refl _ _) | (with_reducible refine Only.drew ?_) | (with_reducible refine Only.setCell ?_ (by simp) _))))) (fun hHeld => ?_)
      clear hK K
      try simp only [Act.put, List.setIfInBounds_toArray, List.set_cons_zero, List.set_cons_succ]
      refine wpAnyH_ready (rs := [1]) (by kernel_rfl) (by simp) ?_
      refine AllReadyH.cons (o := ⟨_, _, _, _, _, _⟩) rfl (fun K hK => ?_) AllReadyH.nil
      clear hHeld
      go_simp
      refine hK.out _ _ (by (refine KEEP7.out _ ?_; (repeat' (first | (with_reducible exact Only.refl _ _) | (with_reducible refine Only.drew ?_) | (with_reducible refine Only.setCell ?_ (by simp) _))))) (fun hHeld => ?_)
      clear hK K
      try simp only [Act.put, List.setIfInBounds_toArray, List.set_cons_zero, List.set_cons_succ]
      refine wpAnyH_take (i := 2) (oi := ⟨_, _, _, _, _, _⟩) (v := ?_) rfl (by kernel_rfl) (by kernel_rfl) (by kernel_rfl) (fun _ _ _ h => h) (Or.inl ⟨by rfl, ?_⟩) hHeld ?_
      rotate_left
      · (intro w hSw; (try dsimp only at hSw); go_simp) <;> with_reducible rfl
      try simp only [Act.put, List.setIfInBounds_toArray, List.set_cons_zero, List.set_cons_succ]
      refine wpAnyH_take (i := 6) (oi := ⟨_, _, _, _, _, _⟩) (v := ?_) rfl (by kernel_rfl) (by kernel_rfl) (by kernel_rfl) (fun _ _ _ h => h) (Or.inl ⟨by rfl, ?_⟩) hHeld ?_
      rotate_left
      · (intro w hSw; (try dsimp only at hSw); go_simp) <;> with_reducible rfl
      try simp only [Act.put, List.setIfInBounds_toArray, List.set_cons_zero, List.set_cons_succ]
      refine wpAnyH_ready (rs := [7]) (by kernel_rfl) (by simp) ?_
      refine AllReadyH.cons (o := ⟨_, _, _, _, _, _⟩) rfl (fun K hK => ?_) AllReadyH.nil
      clear hHeld
      go_simp
      refine hK.out _ _ (by (refine KEEP7.out _ ?_; (repeat' (first | (with_reducible exact Only.refl _ _) | (with_reducible refine Only.drew ?_) | (with_reducible refine Only.setCell ?_ (by simp) _))))) (fun hHeld => ?_)
      clear hK K
      try simp only [Act.put, List.setIfInBounds_toArray, List.set_cons_zero, List.set_cons_succ]
      refine wpAnyH_take (i := 8) (oi := ⟨_, _, _, _, _, _⟩) (v := ?_) rfl (by kernel_rfl) (by kernel_rfl) (by kernel_rfl) (fun _ _ _ h => h) (Or.inl ⟨by rfl, ?_⟩) hHeld ?_
      rotate_left
      · (intro w hSw; (try dsimp only at hSw); go_simp) <;> with_reducible rfl
      try simp only [Act.put, List.setIfInBounds_toArray, List.set_cons_zero, List.set_cons_succ]
      refine wpAnyH_ready (rs := [9]) (by kernel_rfl) (by simp) ?_
      refine AllReadyH.cons (o := ⟨_, _, _, _, _, _⟩) rfl (fun K hK => ?_) AllReadyH.nil
      clear hHeld
      go_simp
      refine hK.out _ _ (by (refine KEEP7.out _ ?_; (repeat' (first | (with_reducible exact Only.refl _ _) | (with_reducible refine Only.drew ?_) | (with_reducible refine Only.setCell ?_ (by simp) _))))) (fun hHeld => ?_)
      clear hK K
      try simp only [Act.put, List.setIfInBounds_toArray, List.set_cons_zero, List.set_cons_succ]
      refine wpAnyH_done (by kernel_rfl) ?_ _
      go_wp2_with fail
      refine bodyPost_ret (by simp [results, Try.results76, go_sem, x0, x1, x2, x3, x4, y0, y1, y2, y3, y4]; try rfl) rfl ?_
      refine ⟨_, by rw [HDD.out], HFIN7.out _ ?_⟩
      repeat' (first | (with_reducible exact Only.refl _ _) | (with_reducible refine Only.drew ?_) | (with_reducible refine Only.setCell ?_ (by simp) _))
end C26
end Go.Proofs.Ytcohcanakicmpaa
namespace Go.Proofs.Ytcohcanakicmpaa
open Go.RowKit Go.Peri
open Gen (flat_set set_mid get_mid map_take_snoc owns_at owns_num owns_le owns_below owns_form)
namespace C26
open Sq (rest ixQ atQ total bk benc)
/-- Blocks that are none of the closure's. -/
def Far (w : World) (B : Nat) (ag gv : Value) (X : List Nat) (b : Nat) : Prop := b < w.heap.size ∧ B + 4 < b ∧ b ∉ blocks ag ∧ b ∉ blocks gv ∧ b ∉ X
structure St (w : World) (B M : Nat) (now retry tries : Int) (kA kG : List Sq) (ag gv : Value) (X : List Nat) : Prop where
  caps : Caps w B now retry tries ag gv
  oa : w.ownsRow M 45 3 ag kA.length (kA.flatMap benc)
  og : w.ownsRow M 45 3 gv kG.length (kG.flatMap benc)
  dis : Disj (blocks ag) (blocks gv)
  xa : Disj (blocks ag) X
  xg : Disj (blocks gv) X
  sa : ∀ k ∈ kA, k.At (Far w B ag gv X) w
  sg : ∀ k ∈ kG, k.At (Far w B ag gv X) w
  hM : B + 4 < M
  hw : M ≤ w.heap.size
section
variable {W w w' w2 w3 w4 : World} {B M : Nat} {now retry tries : Int} {kA kG : List Sq} {ag gv : Value} {X : List Nat}
theorem St.only {Y : List Nat} (h : St w B M now retry tries kA kG ag gv X) (ho : Only Y w w') (hy : ∀ b, b ∈ Y → b ∈ X) (hx : ∀ b, b ∈ Y → b < B ∨ B + 4 < b) : St w' B M now retry tries kA kG ag gv X :=
  ⟨h.caps.only ho hx, owns_keep h.oa ho (fun b hb hm => h.xa b hb (hy b hm)), owns_keep h.og ho (fun b hb hm => h.xg b hb (hy b hm)), h.dis, h.xa, h.xg,
    fun k hk => ((h.sa k hk).only ho (fun b hb => ⟨hb.1, fun hm => hb.2.2.2.2 (hy b hm)⟩)).imp (fun b hb => ⟨Nat.lt_of_lt_of_le hb.1 ho.size, hb.2⟩),
    fun k hk => ((h.sg k hk).only ho (fun b hb => ⟨hb.1, fun hm => hb.2.2.2.2 (hy b hm)⟩)).imp (fun b hb => ⟨Nat.lt_of_lt_of_le hb.1 ho.size, hb.2⟩), h.hM, Nat.le_trans h.hw ho.size⟩
theorem St.weaken {X' : List Nat} (h : St w B M now retry tries kA kG ag gv X) (hs : ∀ b, b ∈ X' → b ∈ X) : St w B M now retry tries kA kG ag gv X' :=
  ⟨h.caps, h.oa, h.og, h.dis, fun b hb hm => h.xa b hb (hs b hm), fun b hb hm => h.xg b hb (hs b hm), fun k hk => (h.sa k hk).imp (fun b hb => ⟨hb.1, hb.2.1, hb.2.2.1, hb.2.2.2.1, fun hm => hb.2.2.2.2 (hs b hm)⟩), fun k hk => (h.sg k hk).imp (fun b hb => ⟨hb.1, hb.2.1, hb.2.2.1, hb.2.2.2.1, fun hm => hb.2.2.2.2 (hs b hm)⟩), h.hM, h.hw⟩
theorem St.later (h : St w B M now retry tries kA kG ag gv X) (hb : Below w.heap.size w w') : St w' B M now retry tries kA kG ag gv X :=
  ⟨h.caps.later hb, owns_below h.oa hb, owns_below h.og hb, h.dis, h.xa, h.xg,
    fun k hk => ((h.sa k hk).below hb (fun b h => h.1)).imp (fun b h => ⟨Nat.lt_of_lt_of_le h.1 hb.size, h.2⟩),
    fun k hk => ((h.sg k hk).below hb (fun b h => h.1)).imp (fun b h => ⟨Nat.lt_of_lt_of_le h.1 hb.size, h.2⟩), h.hM, Nat.le_trans h.hw hb.size⟩
theorem Far.later (hb : Below w.heap.size w w') {b : Nat} (h : Far w B ag gv X b) : Far w' B ag gv X b := ⟨Nat.lt_of_lt_of_le h.1 hb.size, h.2⟩
/-- One more is given up. -/
theorem St.stepG {x : Sq} {gv' : Value} (hX : ∀ b, b ∈ X → b < W.heap.size) (h : St W B M now retry tries kA kG ag gv X) (hx : x.At (Far W B ag gv X) W) (hb : Below W.heap.size W w2) (hsz : W.heap.size + 1 < w2.heap.size) (ho3 : Only (blocks gv) w2 w3) (hm : Moves w2.heap.size (blocks gv) (blocks gv')) (hown : w3.ownsRow M 45 3 gv' (kG.length + 1) (kG.flatMap benc ++ benc x)) (ho : Only [W.heap.size + 1] (w3.setCell ⟨B + 4, 0, none⟩ gv') w') :
    Only ((B + 4) :: blocks gv) W w' ∧ Moves W.heap.size (blocks gv) (blocks gv') ∧ St w' B M now retry tries kA (kG ++ [x]) ag gv' X := by
  have hgl := owns_bd h.og
  have hal := owns_bd h.oa
  have hM := h.hM
  have hw := h.hw
  have hs2 := hb.size
  have hcl := h.caps.lt
  have o3 : Only ((B + 4) :: blocks gv) W w3 := (Only.of_below hb).trans (ho3.mono (fun k hk => List.mem_cons_of_mem _ hk))
  have o4 : Only ((B + 4) :: blocks gv) W (w3.setCell ⟨B + 4, 0, none⟩ gv') := o3.setCell (by simp) _
  have o5 : Only ((W.heap.size + 1) :: (B + 4) :: blocks gv) W w' := (o4.mono (fun k hk => List.mem_cons_of_mem _ hk)).trans (ho.mono (by simp))
  have oW : Only ((B + 4) :: blocks gv) W w' := only_cutF o5 (by omega)
  have hm' : Moves W.heap.size (blocks gv) (blocks gv') := hm.le hs2
  have c3 := (h.caps.later hb).only ho3 (fun b hb => .inr (by have := (hgl b hb).1; omega))
  have c5 := (c3.setGv gv').only ho (fun b hb => by simp at hb; omega)
  have nin : ∀ b, Far W B ag gv X b → b < W.heap.size ∧ b ∉ (B + 4) :: blocks gv := fun b hb => ⟨hb.1, fun hm => by
    rcases List.mem_cons.1 hm with e | e
    · have := hb.2.1; omega
    · exact hb.2.2.2.1 e⟩
  have far : ∀ b, Far W B ag gv X b → Far w' B ag gv' X b := fun b hb => ⟨Nat.lt_of_lt_of_le hb.1 oW.size, hb.2.1, hb.2.2.1, fun hm2 => (hm b hm2).elim hb.2.2.2.1 (fun h2 => by have := hb.1; omega), hb.2.2.2.2⟩
  refine ⟨oW, hm', c5, owns_keep h.oa oW (fun b hb hm => ?_), ?_, fun b ha hg' => (hm b hg').elim (h.dis b ha) (fun h2 => by have := (hal b ha).2; omega), h.xa, fun b hb hx2 => (hm b hb).elim (fun h1 => h.xg b h1 hx2) (fun h2 => by have := hX b hx2; omega), fun k hk => ((h.sa k hk).only oW nin).imp far, fun k hk => ?_, hM, by have := oW.size; omega⟩
  · rcases List.mem_cons.1 hm with e | e
    · have := (hal b hb).1; omega
    · exact h.dis b hb e
  · have hk : w'.ownsRow M 45 3 gv' (kG.length + 1) (kG.flatMap benc ++ benc x) := by
      have oo : Only [W.heap.size + 1, B + 4] w3 w' := (((Only.refl [B + 4] w3).setCell (by simp) _).mono (by simp)).trans (ho.mono (by simp))
      refine owns_keep hown oo (fun b hb hm2 => ?_)
      have h1 := hm b hb
      simp at hm2
      rcases h1 with h1 | h1
      · have := hgl b h1; omega
      · omega
    simpa [List.flatMap_append] using hk
  · rcases List.mem_append.1 hk with hk | hk
    · exact ((h.sg k hk).only oW nin).imp far
    · rw [List.mem_singleton] at hk
      subst hk
      exact (hx.only oW nin).imp far
end
set_option maxRecDepth 100000 in
set_option maxHeartbeats 4000000 in
theorem litB2 (x : Sq) (B M : Nat) (now retry tries : Int) (kA kG : List Sq) (ag gv : Value) (X : List Nat) (W : World) (hX : ∀ b, b ∈ X → b < W.heap.size) (h : St W B M now retry tries kA kG ag gv X) (hx : x.At (Far W B ag gv X) W) (hge : ¬ clk now < x.due) (htr : tries ≤ x.tries) (hn : kG.length ≤ 1000000) :
    Calls Try.prog 76 #[.agg #[.int .i64 x.node, .int .i64 x.seq, .slice x.pa x.sp.length x.pcap, .int .i64 x.tries, .int .i64 x.due], .pointer (some ⟨B, 0, none⟩), .pointer (some ⟨B + 2, 0, none⟩), .pointer (some ⟨B + 4, 0, none⟩), .pointer (some ⟨B + 3, 0, none⟩), .pointer (some ⟨B + 1, 0, none⟩)] W fun e w' => ∃ gv', e = .returned (.tuple #[.agg #[.int .i64 x.node, .int .i64 x.seq, .slice x.pa x.sp.length x.pcap, .int .i64 x.tries, .int .i64 x.due], .bool false]) ∧ Hid (Only ((B + 4) :: blocks gv) W w' ∧ Moves W.heap.size (blocks gv) (blocks gv') ∧ St w' B M now retry tries kA (kG ++ [x]) ag gv' X) := by
  have HST := hid h
  have HXX := hid hX
  have HCP := hid h.caps
  have hl4 := h.caps.lt
  have HX := hid hx
  obtain ⟨ga, gc, rfl⟩ := Gen.owns_form h.og
  have hMw : M ≤ W.heap.size := h.hw
  have HOG := hid h.og
  clear h hx hX
  go_enter Try.func76, Try.ntmps76
  go_upto_region 1 with fail
  refine wp_genF ?_
  intro w1 hw1
  have hb1 : Below W.heap.size W w1 := by rw [hw1]; go_grown
  have hk1 : Blk w1 W.heap.size #[.int .i64 x.node, .int .i64 x.seq, .slice x.pa x.sp.length x.pcap, .int .i64 x.tries, .int .i64 x.due] 93 := by rw [hw1]; exact (Blk.new _ _ _).alloc _
  have hk2 : Blk w1 (W.heap.size + 1) #[.int .i64 0, .int .i64 0, .slice none 0 0, .int .i64 0, .int .i64 0] 93 := by rw [hw1]; exact Blk.new' _ _ _ (by simp)
  clear hw1
  have HB1 := hid hb1
  have HK1 := hid hk1
  have HK2 := hid hk2
  have HC1 := hid (HCP.out.later hb1)
  obtain ⟨x0, x1, x2, x3, x4, -⟩ := blk5' hk1
  have c0 := HC1.out.now.cell 0
  simp only [List.getElem?_toArray, List.getElem?_cons_zero] at c0
  have hlx := hk1.lt
  have hlB : B < w1.heap.size := HC1.out.now.lt
  clear hb1 hk1 hk2
  have XC : Hid (∀ z : BW w1, Calls Try.prog 77 #[.int .i64 now] z.val fun e w' => e = .returned (.int .i64 (clk now)) ∧ z.val = w') := hid (fun z => clock_any now z.val)
  obtain ⟨cl, hcl⟩ : ∃ c, clk now = c := ⟨_, rfl⟩
  rw [hcl] at XC hge
  clear hcl
  have hltf : ¬ cl < x.due := hge
  go_wp2_with fail
  refine wp_region_bw (by kernel_rfl) (by kernel_rfl) ?_
  repeat (go_big_quiet_step ((go_at_call 77; exact bw_same (XC.out _))))
  refine wpQuiet_nil ?_
  rintro w2 ⟨⟨_, hb2⟩, rfl⟩
  have HB2 := hid (HB1.out.trans (hb2.mono HB1.out.size))
  have HK3 := hid (HK1.out.later hb2)
  have HR3 := hid (HK2.out.later hb2)
  have HC2 := hid (HC1.out.later hb2)
  have hl2 := (HK2.out.later hb2).lt
  clear hb2 x0 x1 x2 x3 x4 c0 XC hlx HK1 HK2 HC1 HB1 hlB
  obtain ⟨x0, x1, x2, x3, x4, -⟩ := blk5' HK3.out
  have g0 : w2.cell? ⟨B + 4, 0, none⟩ = some (.slice ga kG.length gc) := HC2.out.gv.cell 0
  have t0 : w2.cell? ⟨B + 2, 0, none⟩ = some (.int .i64 tries) := HC2.out.tries.cell 0
  have hgl : B + 4 < w2.heap.size := HC2.out.lt
  have HO2 : Hid (w2.ownsRow M 45 3 (.slice ga kG.length gc) kG.length (kG.flatMap benc)) := hid (owns_below HOG.out HB2.out)
  have h63 : kG.length + 1 ≤ maxLen := by unfold maxLen; omega
  have hby : (kG.length + 1) * 40 ≤ 140737488355328 := by omega
  have hMw2 : M ≤ w2.heap.size := by have := HB2.out.size; omega
  go_upto_region 5 with (at_builtin; refine wpList_push_at (w0 := w2) (T := 45) (news := benc x) elemB rfl _ _ rfl M (.slice ga kG.length gc) kG.length _ rfl HO2.out rfl rfl rfl (by simp [Sq.benc, Value.oneCell']) h63 hby hMw2 ?_; intro v3' w3 hown3 ho3 hm3; obtain ⟨a3, cap3, rfl⟩ := Gen.owns_form hown3; have hc3 : Caps w3 B now retry tries ag (.slice ga kG.length gc) := HC2.out.only ho3 (fun b hb => .inr (by have h1 := (owns_bd HOG.out b hb).1; have h2 := HST.out.hM; omega)); have g3 : w3.cell? ⟨B + 4, 0, none⟩ = some (.slice ga kG.length gc) := hc3.gv.cell 0; have gf3 : w3.frozen? ⟨B + 4, 0, none⟩ = false := hc3.gv.free 0; have HC3 := hid hc3; have HO3 := hid ho3; have HM3 := hid hm3; have HN3 := hid hown3; clear ho3 hown3 hm3 hc3)
  refine wp_genF ?_
  intro w4 hw4
  have HW4 := hid hw4
  have ho4 : Only [B + 4] w3 w4 := by rw [hw4]; exact (Only.refl _ _).setCell (by simp) _
  have nog : ∀ n, W.heap.size ≤ n → n ∉ blocks (.slice ga kG.length gc) := fun n hn hm => by have := (owns_bd HOG.out n hm).2; omega
  have hk4 : Blk w4 W.heap.size #[.int .i64 x.node, .int .i64 x.seq, .slice x.pa x.sp.length x.pcap, .int .i64 x.tries, .int .i64 x.due] 93 := (HK3.out.only HO3.out (nog _ (Nat.le_refl _))).only ho4 (by simp; omega)
  have hr4 : Blk w4 (W.heap.size + 1) #[.int .i64 0, .int .i64 0, .slice none 0 0, .int .i64 0, .int .i64 0] 93 := (HR3.out.only HO3.out (nog _ (by omega))).only ho4 (by simp; omega)
  clear hw4 ho4 nog
  clear x0 x1 x2 x3 x4 g0 t0 g3 gf3
  obtain ⟨x0, x1, x2, x3, x4, -⟩ := blk5' hk4
  obtain ⟨y0, y1, y2, y3, y4, yf⟩ := blk5' hr4
  have hl5 := hr4.lt
  have hlx := hk4.lt
  have hL2 := hid hl2
  clear hk4 hr4 HK3 HR3 hl4 hgl hl2 hMw hMw2 hby h63
  have HFIN : Hid (∀ w', Only [W.heap.size + 1] w4 w' → Hid (Only ((B + 4) :: blocks (.slice ga kG.length gc)) W w' ∧ Moves W.heap.size (blocks (.slice ga kG.length gc)) (blocks (.slice a3 (kG.length + 1) cap3)) ∧ St w' B M now retry tries kA (kG ++ [x]) ag (.slice a3 (kG.length + 1) cap3) X)) := hid (fun w' ho => by
    have ho' := ho
    rw [HW4.out] at ho'
    exact hid (HST.out.stepG HXX.out HX.out HB2.out hL2.out HO3.out HM3.out HN3.out ho'))
  clear HX HXX HCP HB2 HO3 HC2 HC3 HM3 HN3 HW4 HST HOG HO2
  go_wp2_with fail
  refine bodyPost_ret (by simp [results, Try.results76, go_sem, y0, y1, y2, y3, y4]; try rfl) rfl ?_
  refine ⟨_, rfl, HFIN.out _ ?_⟩
  iterate 5 (refine Only.setCell ?_ (by simp) _)
  exact Only.refl _ _
end C26
end Go.Proofs.Ytcohcanakicmpaa
namespace Go.Proofs.Ytcohcanakicmpaa
open Go.RowKit Go.Peri
open Gen (flat_set set_mid get_mid map_take_snoc owns_at owns_num owns_le owns_below owns_form)
namespace C26
open Sq (rest ixQ atQ total bk benc)
/-- What a batch that is sent again has left. -/
def CutD (W : World) (x : Sq) (B M : Nat) (now retry tries : Int) (kA kG : List Sq) (ag gv : Value) (X : List Nat) (wx : World) : Prop := ∃ (ag' : Value) (k' : Sq), bk k' = bk x ∧ Only ((B + 3) :: blocks ag) W wx ∧ Moves W.heap.size (blocks ag) (blocks ag') ∧ St wx B M now retry tries (kA ++ [k']) kG ag' gv (W.heap.size :: (W.heap.size + 1) :: X) ∧ Blk wx W.heap.size #[.int .i64 x.node, .int .i64 x.seq, .slice x.pa x.sp.length x.pcap, .int .i64 x.tries, .int .i64 x.due] 93 ∧ Blk wx (W.heap.size + 1) #[.int .i64 0, .int .i64 0, .slice none 0 0, .int .i64 0, .int .i64 0] 93
/-- One more is sent again. -/
theorem St.stepA {W w2 w3 w4 : World} {B M : Nat} {now retry tries : Int} {kA kG : List Sq} {ag gv : Value} {x k' : Sq} {ag' : Value} {X : List Nat} (hX : ∀ b, b ∈ X → b < W.heap.size) (h : St W B M now retry tries kA kG ag gv X) (hb : Below W.heap.size W w2) (hsz : W.heap.size + 1 < w2.heap.size) (hb3 : Below w2.heap.size w2 w3) (hk : OwnK w2.heap.size w3 k') (hkx : bk k' = bk x) (ho4 : Only (blocks ag) w3 w4) (hm : Moves w3.heap.size (blocks ag) (blocks ag')) (hown : w4.ownsRow M 45 3 ag' (kA.length + 1) (kA.flatMap benc ++ benc k'))
    (hx1 : Blk w2 W.heap.size #[.int .i64 x.node, .int .i64 x.seq, .slice x.pa x.sp.length x.pcap, .int .i64 x.tries, .int .i64 x.due] 93) (hx2 : Blk w2 (W.heap.size + 1) #[.int .i64 0, .int .i64 0, .slice none 0 0, .int .i64 0, .int .i64 0] 93) :
    CutD W x B M now retry tries kA kG ag gv X (w4.setCell ⟨B + 3, 0, none⟩ ag') := by
  have hgl := owns_bd h.og
  have hal := owns_bd h.oa
  have hM := h.hM
  have hw := h.hw
  have hs2 := hb.size
  have hs3 := hb3.size
  have hcl := h.caps.lt
  have b3 : Below W.heap.size W w3 := hb.trans (hb3.mono hs2)
  have o4 : Only ((B + 3) :: blocks ag) W w4 := (Only.of_below b3).trans (ho4.mono (fun k hk => List.mem_cons_of_mem _ hk))
  have oW : Only ((B + 3) :: blocks ag) W (w4.setCell ⟨B + 3, 0, none⟩ ag') := o4.setCell (by simp) _
  have o5 : Only [B + 3] w4 (w4.setCell ⟨B + 3, 0, none⟩ ag') := (Only.refl _ _).setCell (by simp) _
  have o35 : Only ((B + 3) :: blocks ag) w3 (w4.setCell ⟨B + 3, 0, none⟩ ag') := (ho4.mono (fun k hk => List.mem_cons_of_mem _ hk)).setCell (by simp) _
  have hm' : Moves W.heap.size (blocks ag) (blocks ag') := hm.le (by omega)
  have c4 := (h.caps.later b3).only ho4 (fun b hb => .inr (by have := (hal b hb).1; omega))
  have c5 := c4.setAg ag'
  have hin : ∀ b, b ∈ blocks ag' → M ≤ b ∧ (b < W.heap.size ∨ w3.heap.size ≤ b) := fun b hb => (hm b hb).elim (fun h1 => ⟨(hal b h1).1, .inl (hal b h1).2⟩) (fun h1 => ⟨by omega, .inr h1⟩)
  have nin : ∀ b, Far W B ag gv X b → b < W.heap.size ∧ b ∉ (B + 3) :: blocks ag := fun b hb => ⟨hb.1, fun hm => by
    rcases List.mem_cons.1 hm with e | e
    · have := hb.2.1; omega
    · exact hb.2.2.1 e⟩
  have far : ∀ b, Far W B ag gv X b → Far (w4.setCell ⟨B + 3, 0, none⟩ ag') B ag' gv (W.heap.size :: (W.heap.size + 1) :: X) b := fun b hb => ⟨Nat.lt_of_lt_of_le hb.1 oW.size, hb.2.1, fun hm2 => (hm b hm2).elim hb.2.2.1 (fun h2 => by have := hb.1; omega), hb.2.2.2.1, fun hm2 => by
    have h1 := hb.1
    simp only [List.mem_cons] at hm2
    rcases hm2 with e | e | e
    · omega
    · omega
    · exact hb.2.2.2.2 e⟩
  have hks := OwnK.bd hk
  have n1 : ∀ n, W.heap.size ≤ n → n ∉ blocks ag := fun n hn hm => by have := (hal n hm).2; omega
  have hk1 := fun (w : World) (o : Only ((B + 3) :: blocks ag) w3 w) (n : Nat) (hn : W.heap.size ≤ n) => (show n ∉ (B + 3) :: blocks ag from fun hm => by
    rcases List.mem_cons.1 hm with e | e
    · omega
    · exact n1 n hn e)
  refine ⟨ag', k', hkx, oW, hm', ⟨c5, ?_, owns_keep h.og oW (fun b hb hm2 => ?_), fun b ha hg' => (hm b ha).elim (fun h1 => h.dis b h1 hg') (fun h2 => by have := (hgl b hg').2; omega), fun b hb hm2 => ?_, fun b hb hm2 => ?_, fun k hk2 => ?_, fun k hk2 => ((h.sg k hk2).only oW nin).imp far, hM, by have := oW.size; omega⟩, (hx1.later hb3).only o35 (hk1 _ o35 _ (Nat.le_refl _)), (hx2.later hb3).only o35 (hk1 _ o35 _ (by omega))⟩
  · have h5 : (w4.setCell ⟨B + 3, 0, none⟩ ag').ownsRow M 45 3 ag' (kA.length + 1) (kA.flatMap benc ++ benc k') := owns_keep hown o5 (fun b hb hm2 => by have := (hin b hb).1; simp at hm2; omega)
    simpa [List.flatMap_append] using h5
  · rcases List.mem_cons.1 hm2 with e | e
    · have := (hgl b hb).1; omega
    · exact h.dis b e hb
  · have h1 := hin b hb
    simp only [List.mem_cons] at hm2
    rcases hm2 with e | e | e
    · omega
    · omega
    · rcases hm b hb with h2 | h2
      · exact h.xa b h2 e
      · have := hX b e; omega
  · have h1 := hgl b hb
    simp only [List.mem_cons] at hm2
    rcases hm2 with e | e | e
    · omega
    · omega
    · exact h.xg b hb e
  · rcases List.mem_append.1 hk2 with hk2 | hk2
    · exact ((h.sa k hk2).only oW nin).imp far
    · rw [List.mem_singleton] at hk2
      subst hk2
      have hr : k.At (fun b => w2.heap.size ≤ b ∧ b < w3.heap.size) w3 := RowsOf.of_owns Sp.enc_length hk
      refine (hr.only o35 (fun b hb => ⟨hb.2, hk1 _ o35 b (by omega)⟩)).imp (fun b hb => ⟨Nat.lt_of_lt_of_le hb.2 o35.size, by omega, fun hm2 => ?_, fun hm2 => by have := (hgl b hm2).2; omega, fun hm2 => by
        simp only [List.mem_cons] at hm2
        rcases hm2 with e | e | e
        · omega
        · omega
        · have := hX b e; omega⟩)
      have := hin b hm2
      omega
set_option maxRecDepth 100000 in
set_option maxHeartbeats 8000000 in
theorem litC2 (x : Sq) (B M : Nat) (now retry tries : Int) (kA kG : List Sq) (ag gv : Value) (X : List Nat) (W : World) (hX : ∀ b, b ∈ X → b < W.heap.size) (h : St W B M now retry tries kA kG ag gv X) (hx : x.At (Far W B ag gv X) W) (hge : ¬ clk now < x.due) (htr : ¬ tries ≤ x.tries) (htb : 0 ≤ x.tries ∧ x.tries ≤ 1000000) (hl : x.sp.length ≤ 1000000) (hn : kA.length ≤ 1000000) :
    Calls Try.prog 76 #[.agg #[.int .i64 x.node, .int .i64 x.seq, .slice x.pa x.sp.length x.pcap, .int .i64 x.tries, .int .i64 x.due], .pointer (some ⟨B, 0, none⟩), .pointer (some ⟨B + 2, 0, none⟩), .pointer (some ⟨B + 4, 0, none⟩), .pointer (some ⟨B + 3, 0, none⟩), .pointer (some ⟨B + 1, 0, none⟩)] W fun e w' => ∃ ag' k', e = .returned (.tuple #[.agg #[.int .i64 x.node, .int .i64 x.seq, .slice x.pa x.sp.length x.pcap, .int .i64 (x.tries + 1), .int .i64 (dueI now retry)], .bool true]) ∧ Hid (bk k' = bk x ∧ Only ((B + 3) :: blocks ag) W w' ∧ Moves W.heap.size (blocks ag) (blocks ag') ∧ St w' B M now retry tries (kA ++ [k']) kG ag' gv X) := by
  have HST := hid h
  have HXX := hid hX
  have HCP := hid h.caps
  have hl4 := h.caps.lt
  have HX := hid hx
  obtain ⟨aa, ac, rfl⟩ := Gen.owns_form h.oa
  have hMw : M ≤ W.heap.size := h.hw
  have HOA := hid h.oa
  have hBM : B + 4 < M := h.hM
  clear h hx hX
  go_enter Try.func76, Try.ntmps76
  go_upto_region 1 with fail
  refine wp_genF ?_
  intro w1 hw1
  have hb1 : Below W.heap.size W w1 := by rw [hw1]; go_grown
  have hk1 : Blk w1 W.heap.size #[.int .i64 x.node, .int .i64 x.seq, .slice x.pa x.sp.length x.pcap, .int .i64 x.tries, .int .i64 x.due] 93 := by rw [hw1]; exact (Blk.new _ _ _).alloc _
  have hk2 : Blk w1 (W.heap.size + 1) #[.int .i64 0, .int .i64 0, .slice none 0 0, .int .i64 0, .int .i64 0] 93 := by rw [hw1]; exact Blk.new' _ _ _ (by simp)
  clear hw1
  have HB1 := hid hb1
  have HK1 := hid hk1
  have HK2 := hid hk2
  have HC1 := hid (HCP.out.later hb1)
  obtain ⟨x0, x1, x2, x3, x4, -⟩ := blk5' hk1
  have c0 := HC1.out.now.cell 0
  simp only [List.getElem?_toArray, List.getElem?_cons_zero] at c0
  have hlx := hk1.lt
  have hlB : B < w1.heap.size := HC1.out.now.lt
  clear hb1 hk1 hk2
  have XC : Hid (∀ z : BW w1, Calls Try.prog 77 #[.int .i64 now] z.val fun e w' => e = .returned (.int .i64 (clk now)) ∧ z.val = w') := hid (fun z => clock_any now z.val)
  have XD := hid (fun w' => due_any now retry w')
  obtain ⟨cl, hcl⟩ : ∃ c, clk now = c := ⟨_, rfl⟩
  rw [hcl] at XC hge
  clear hcl
  obtain ⟨dd, hdd⟩ : ∃ d, dueI now retry = d := ⟨_, rfl⟩
  rw [hdd] at XD
  have HDD := hid hdd
  clear hdd
  have hltf : ¬ cl < x.due := hge
  go_wp2_with fail
  refine wp_region_bw (by kernel_rfl) (by kernel_rfl) ?_
  repeat (go_big_quiet_step ((go_at_call 77; exact bw_same (XC.out _))))
  refine wpQuiet_nil ?_
  rintro w2 ⟨⟨_, hb2⟩, rfl⟩
  have HB2 := hid (HB1.out.trans (hb2.mono HB1.out.size))
  have HK3 := hid (HK1.out.later hb2)
  have HR3 := hid (HK2.out.later hb2)
  have HC2 := hid (HC1.out.later hb2)
  have hl2 := (HK2.out.later hb2).lt
  clear hb2 x0 x1 x2 x3 x4 c0 XC hlx HK1 HK2 HC1 HB1 hlB
  obtain ⟨x0, x1, x2, x3, x4, -⟩ := blk5' HK3.out
  have a0 : w2.cell? ⟨B + 3, 0, none⟩ = some (.slice aa kA.length ac) := HC2.out.ag.cell 0
  have t0 : w2.cell? ⟨B + 2, 0, none⟩ = some (.int .i64 tries) := HC2.out.tries.cell 0
  have hgl : B + 3 < w2.heap.size := HC2.out.ag.lt
  have hgl2 : B + 2 < w2.heap.size := HC2.out.tries.lt
  have h63 : kA.length + 1 ≤ maxLen := by unfold maxLen; omega
  have hby : (kA.length + 1) * 40 ≤ 140737488355328 := by omega
  have hne : ¬ B + 3 = W.heap.size := by omega
  obtain ⟨S, hS⟩ : ∃ S, S = (B + 3) :: blocks (.slice aa kA.length ac) := ⟨_, rfl⟩
  have hSm : B + 3 ∈ S := by rw [hS]; simp
  have hSn : W.heap.size ∉ S := by
    rw [hS]
    intro hm
    rcases List.mem_cons.1 hm with e | e
    · omega
    · have := (owns_bd HOA.out _ e).2; omega
  have hSb : ∀ b, b ∈ blocks (.slice aa kA.length ac) → b ∈ S := fun b hb => by rw [hS]; exact List.mem_cons_of_mem _ hb
  have HSB := hid hSb
  clear hS hSb
  have KEEP : Hid (∀ w', Only S w2 w' → w'.cell? ⟨W.heap.size, 0, none⟩ = some (.int .i64 x.node) ∧ w'.cell? ⟨W.heap.size, 1, none⟩ = some (.int .i64 x.seq) ∧ w'.cell? ⟨W.heap.size, 2, none⟩ = some (.slice x.pa x.sp.length x.pcap)) := hid (fun w' ho =>
    have hk := HK3.out.only ho hSn
    ⟨hk.cell 0, hk.cell 1, hk.cell 2⟩)
  have XO : Hid (∀ w', Below w2.heap.size w2 w' → Calls Try.prog 78 #[.agg #[.int .i64 x.node, .int .i64 x.seq, .slice x.pa x.sp.length x.pcap]] w' fun e w'' => ∃ pa pcap, e = .returned (.agg #[.int .i64 x.node, .int .i64 x.seq, .slice pa x.sp.length pcap]) ∧ Below w2.heap.size w2 w'' ∧ w''.cell? ⟨B + 3, 0, none⟩ = some (.slice aa kA.length ac) ∧ w''.frozen? ⟨B + 3, 0, none⟩ = false ∧ B + 3 < w''.heap.size ∧ Hid (OwnK w2.heap.size w'' { x with pa := pa, pcap := pcap }) ∧ Hid (w''.ownsRow M 45 3 (.slice aa kA.length ac) kA.length (kA.flatMap benc)) ∧ M ≤ w''.heap.size) := hid (fun w' hb => by
    have hbb := HB2.out.trans (hb.mono HB2.out.size)
    refine (own_any (p := Far W B (.slice aa kA.length ac) gv X) x w' (HX.out.below hbb (fun _ h => h.1)) (fun b hb' => Nat.lt_of_lt_of_le hb'.1 hbb.size) hl).mono ?_
    rintro e w'' ⟨v, rfl, pa, pcap, rfl, hb2, ho⟩
    have hb3 := hb.trans (hb2.mono hb.size)
    have hb4 := HB2.out.trans (hb3.mono HB2.out.size)
    exact ⟨pa, pcap, rfl, hb3, (HC2.out.later hb3).ag.cell 0, (HC2.out.later hb3).ag.free 0, (HC2.out.later hb3).ag.lt, ho.le hb.size, owns_below HOA.out hb4, Nat.le_trans hMw hb4.size⟩)
  have HFIN : Hid (∀ w3 w4 pa pcap hb4 cap4, Below w2.heap.size w2 w3 → OwnK w2.heap.size w3 { x with pa := pa, pcap := pcap } → w4.ownsRow M 45 3 (.slice (some ⟨hb4, 0, none⟩) (kA.length + 1) cap4) (kA.length + 1) (kA.flatMap benc ++ benc { x with pa := pa, pcap := pcap }) → Only (Value.slice aa kA.length ac).ownBlock.toList w3 w4 → (some hb4 = (Value.slice aa kA.length ac).ownBlock ∨ w3.heap.size ≤ hb4) → CutD W x B M now retry tries kA kG (.slice aa kA.length ac) gv X (w4.setCell ⟨B + 3, 0, none⟩ (.slice (some ⟨hb4, 0, none⟩) (kA.length + 1) cap4)) ∧ Caps w4 B now retry tries (.slice aa kA.length ac) gv) := hid (fun w3 w4 pa pcap hb4 cap4 hb3 ho3 hown ho4 hmv => by
    refine ⟨HST.out.stepA HXX.out (x := x) (k' := { x with pa := pa, pcap := pcap }) HB2.out hl2 hb3 ho3 rfl ho4 (fun k hk => ?_) hown HK3.out HR3.out, (HC2.out.later hb3).only ho4 (fun b hb => .inr (by have := (owns_bd HOA.out b hb).1; omega))⟩
    have e : k = hb4 := by simpa [blocks, Value.ownBlock] using hk
    subst e
    rcases hmv with h | h
    · left; unfold blocks; rw [← h]; simp
    · exact .inr h)
  go_upto_region 6 with fail
  go_cut [8] (fun s8 wx => s8 = .bool false ∧ CutD W x B M now retry tries kA kG (.slice aa kA.length ac) gv X wx)
  case first =>
    refine wp_region_held_drew (S := (fun w' => w'.cell? ⟨W.heap.size, 0, none⟩ = some (.int .i64 x.node) ∧ w'.cell? ⟨W.heap.size, 1, none⟩ = some (.int .i64 x.seq) ∧ w'.cell? ⟨W.heap.size, 2, none⟩ = some (.slice x.pa x.sp.length x.pcap))) (by kernel_rfl) (by (refine KEEP.out _ ?_; (first | (with_reducible exact Only.of_below (by assumption)) | (with_reducible exact Only.refl _ _) | (with_reducible refine Only.drew ?_; with_reducible exact Only.refl _ _) | (with_reducible refine Only.alloc ?_ _; with_reducible exact Only.of_below (by assumption)) | (with_reducible assumption) | (with_reducible refine Only.setCell ?_ hSm _; with_reducible assumption)))) (fun hHeld => ?_)
    refine wpAnyH_take (i := 1) (oi := ⟨_, _, _, _, _, _⟩) (v := ?_) rfl (by kernel_rfl) (by kernel_rfl) (by kernel_rfl) (fun _ _ _ h => h) (Or.inl ⟨by rfl, ?_⟩) hHeld ?_
    rotate_left
    · (intro w hSw; (try dsimp only at hSw); go_simp) <;> with_reducible rfl
    try simp only [Act.put, List.setIfInBounds_toArray, List.set_cons_zero, List.set_cons_succ]
    refine wpAnyH_take (i := 2) (oi := ⟨_, _, _, _, _, _⟩) (v := ?_) rfl (by kernel_rfl) (by kernel_rfl) (by kernel_rfl) (fun _ _ _ h => h) (Or.inl ⟨by rfl, ?_⟩) hHeld ?_
    rotate_left
    · (intro w hSw; (try dsimp only at hSw); go_simp) <;> with_reducible rfl
    try simp only [Act.put, List.setIfInBounds_toArray, List.set_cons_zero, List.set_cons_succ]
    refine wpAnyH_ready (rs := [0, 3]) (by kernel_rfl) (by simp) ?_
    refine AllReadyH.cons (o := ⟨_, _, _, _, _, _⟩) rfl (fun K hK => ?_) ?_
    · clear hHeld
      go_simp
      refine hK.out _ _ (by (refine KEEP.out _ ?_; (first | (with_reducible exact Only.of_below (by assumption)) | (with_reducible exact Only.refl _ _) | (with_reducible refine Only.drew ?_; with_reducible exact Only.refl _ _) | (with_reducible refine Only.alloc ?_ _; with_reducible exact Only.of_below (by assumption)) | (with_reducible assumption) | (with_reducible refine Only.setCell ?_ hSm _; with_reducible assumption)))) (fun hHeld => ?_)
      clear hK K
      try simp only [Act.put, List.setIfInBounds_toArray, List.set_cons_zero, List.set_cons_succ]
      refine wpAnyH_ready (rs := [3]) (by kernel_rfl) (by simp) ?_
      refine AllReadyH.cons (o := ⟨_, _, _, _, _, _⟩) rfl (fun K hK => ?_) AllReadyH.nil
      clear hHeld
      go_simp
      go_at_call 78
      refine (XO.out _ (by first | assumption | exact Below.refl _ _ | exact (Below.refl _ _).drew)).mono ?_
      rintro e w3 ⟨pa, pcap, rfl, hB3, z3, zf3, zl3, hO3, hA3, hM3⟩
      refine hK.out _ _ (by (refine KEEP.out _ ?_; (first | (with_reducible exact Only.of_below (by assumption)) | (with_reducible exact Only.refl _ _) | (with_reducible refine Only.drew ?_; with_reducible exact Only.refl _ _) | (with_reducible refine Only.alloc ?_ _; with_reducible exact Only.of_below (by assumption)) | (with_reducible assumption) | (with_reducible refine Only.setCell ?_ hSm _; with_reducible assumption)))) (fun hHeld => ?_)
      clear hK K
      try simp only [Act.put, List.setIfInBounds_toArray, List.set_cons_zero, List.set_cons_succ]
      refine wpAnyH_ready (rs := [4]) (by kernel_rfl) (by simp) ?_
      refine AllReadyH.cons (o := ⟨_, _, _, _, _, _⟩) rfl (fun K hK => ?_) AllReadyH.nil
      clear hHeld
      go_simp
      refine hK.out _ _ (by (refine KEEP.out _ ?_; (first | (with_reducible exact Only.of_below (by assumption)) | (with_reducible exact Only.refl _ _) | (with_reducible refine Only.drew ?_; with_reducible exact Only.refl _ _) | (with_reducible refine Only.alloc ?_ _; with_reducible exact Only.of_below (by assumption)) | (with_reducible assumption) | (with_reducible refine Only.setCell ?_ hSm _; with_reducible assumption)))) (fun hHeld => ?_)
      clear hK K
      try simp only [Act.put, List.setIfInBounds_toArray, List.set_cons_zero, List.set_cons_succ]
      refine wpAnyH_ready (rs := [5]) (by kernel_rfl) (by simp) ?_
      refine AllReadyH.cons (o := ⟨_, _, _, _, _, _⟩) rfl (fun K hK => ?_) AllReadyH.nil
      clear hHeld
      refine step_push_at elemB rfl (.tmp 27) (.tmp 31) rfl M (.slice aa kA.length ac) kA.length (kA.flatMap benc) (benc { x with pa := pa, pcap := pcap }) (by simp [Act.eval]) hA3.out (w0 := w3) rfl (by simp [Act.eval]) rfl (by simp [Sq.benc, Value.oneCell']) h63 hby hM3 ?_
      intro hb4 cap4 w4 hown4 ho4 hmv4
      have hB4 : Only S w2 w4 := (Only.of_below hB3).trans (ho4.mono HSB.out)
      obtain ⟨hcut, hcp4⟩ := HFIN.out w3 w4 pa pcap hb4 cap4 hB3 hO3.out hown4 ho4 hmv4
      have z4 : w4.cell? ⟨B + 3, 0, none⟩ = some (.slice aa kA.length ac) := hcp4.ag.cell 0
      have zf4 : w4.frozen? ⟨B + 3, 0, none⟩ = false := hcp4.ag.free 0
      replace hcut := hid hcut
      clear hown4 ho4 hmv4 hcp4
      refine hK.out _ _ (by (refine KEEP.out _ ?_; (first | (with_reducible exact Only.of_below (by assumption)) | (with_reducible exact Only.refl _ _) | (with_reducible refine Only.drew ?_; with_reducible exact Only.refl _ _) | (with_reducible refine Only.alloc ?_ _; with_reducible exact Only.of_below (by assumption)) | (with_reducible assumption) | (with_reducible refine Only.setCell ?_ hSm _; with_reducible assumption)))) (fun hHeld => ?_)
      clear hK K
      try simp only [Act.put, List.setIfInBounds_toArray, List.set_cons_zero, List.set_cons_succ]
      refine wpAnyH_ready (rs := [6]) (by kernel_rfl) (by simp) ?_
      refine AllReadyH.cons (o := ⟨_, _, _, _, _, _⟩) rfl (fun K hK => ?_) AllReadyH.nil
      clear hHeld
      go_simp
      refine hK.out _ _ (by (refine KEEP.out _ ?_; (first | (with_reducible exact Only.of_below (by assumption)) | (with_reducible exact Only.refl _ _) | (with_reducible refine Only.drew ?_; with_reducible exact Only.refl _ _) | (with_reducible refine Only.alloc ?_ _; with_reducible exact Only.of_below (by assumption)) | (with_reducible assumption) | (with_reducible refine Only.setCell ?_ hSm _; with_reducible assumption)))) (fun hHeld => ?_)
      clear hK K
      try simp only [Act.put, List.setIfInBounds_toArray, List.set_cons_zero, List.set_cons_succ]
      refine wpAnyH_done (by kernel_rfl) ?_ _
      go_wp2_with fail
      go_meet
      case rel => exact ⟨rfl, hcut.out⟩
    · refine AllReadyH.cons (o := ⟨_, _, _, _, _, _⟩) rfl (fun K hK => ?_) AllReadyH.nil
      clear hHeld
      go_simp
      go_at_call 78
      refine (XO.out _ (by first | assumption | exact Below.refl _ _ | exact (Below.refl _ _).drew)).mono ?_
      rintro e w3 ⟨pa, pcap, rfl, hB3, z3, zf3, zl3, hO3, hA3, hM3⟩
      refine hK.out _ _ (by (refine KEEP.out _ ?_; (first | (with_reducible exact Only.of_below (by assumption)) | (with_reducible exact Only.refl _ _) | (with_reducible refine Only.drew ?_; with_reducible exact Only.refl _ _) | (with_reducible refine Only.alloc ?_ _; with_reducible exact Only.of_below (by assumption)) | (with_reducible assumption) | (with_reducible refine Only.setCell ?_ hSm _; with_reducible assumption)))) (fun hHeld => ?_)
      clear hK K
      try simp only [Act.put, List.setIfInBounds_toArray, List.set_cons_zero, List.set_cons_succ]
      refine wpAnyH_ready (rs := [0, 4]) (by kernel_rfl) (by simp) ?_
      refine AllReadyH.cons (o := ⟨_, _, _, _, _, _⟩) rfl (fun K hK => ?_) ?_
      · clear hHeld
        go_simp
        refine hK.out _ _ (by (refine KEEP.out _ ?_; (first | (with_reducible exact Only.of_below (by assumption)) | (with_reducible exact Only.refl _ _) | (with_reducible refine Only.drew ?_; with_reducible exact Only.refl _ _) | (with_reducible refine Only.alloc ?_ _; with_reducible exact Only.of_below (by assumption)) | (with_reducible assumption) | (with_reducible refine Only.setCell ?_ hSm _; with_reducible assumption)))) (fun hHeld => ?_)
        clear hK K
        try simp only [Act.put, List.setIfInBounds_toArray, List.set_cons_zero, List.set_cons_succ]
        refine wpAnyH_ready (rs := [4]) (by kernel_rfl) (by simp) ?_
        refine AllReadyH.cons (o := ⟨_, _, _, _, _, _⟩) rfl (fun K hK => ?_) AllReadyH.nil
        clear hHeld
        go_simp
        refine hK.out _ _ (by (refine KEEP.out _ ?_; (first | (with_reducible exact Only.of_below (by assumption)) | (with_reducible exact Only.refl _ _) | (with_reducible refine Only.drew ?_; with_reducible exact Only.refl _ _) | (with_reducible refine Only.alloc ?_ _; with_reducible exact Only.of_below (by assumption)) | (with_reducible assumption) | (with_reducible refine Only.setCell ?_ hSm _; with_reducible assumption)))) (fun hHeld => ?_)
        clear hK K
        try simp only [Act.put, List.setIfInBounds_toArray, List.set_cons_zero, List.set_cons_succ]
        refine wpAnyH_ready (rs := [5]) (by kernel_rfl) (by simp) ?_
        refine AllReadyH.cons (o := ⟨_, _, _, _, _, _⟩) rfl (fun K hK => ?_) AllReadyH.nil
        clear hHeld
        refine step_push_at elemB rfl (.tmp 27) (.tmp 31) rfl M (.slice aa kA.length ac) kA.length (kA.flatMap benc) (benc { x with pa := pa, pcap := pcap }) (by simp [Act.eval]) hA3.out (w0 := w3) rfl (by simp [Act.eval]) rfl (by simp [Sq.benc, Value.oneCell']) h63 hby hM3 ?_
        intro hb4 cap4 w4 hown4 ho4 hmv4
        have hB4 : Only S w2 w4 := (Only.of_below hB3).trans (ho4.mono HSB.out)
        obtain ⟨hcut, hcp4⟩ := HFIN.out w3 w4 pa pcap hb4 cap4 hB3 hO3.out hown4 ho4 hmv4
        have z4 : w4.cell? ⟨B + 3, 0, none⟩ = some (.slice aa kA.length ac) := hcp4.ag.cell 0
        have zf4 : w4.frozen? ⟨B + 3, 0, none⟩ = false := hcp4.ag.free 0
        replace hcut := hid hcut
        clear hown4 ho4 hmv4 hcp4
        refine hK.out _ _ (by (refine KEEP.out _ ?_; (first | (with_reducible exact Only.of_below (by assumption)) | (with_reducible exact Only.refl _ _) | (with_reducible refine Only.drew ?_; with_reducible exact Only.refl _ _) | (with_reducible refine Only.alloc ?_ _; with_reducible exact Only.of_below (by assumption)) | (with_reducible assumption) | (with_reducible refine Only.setCell ?_ hSm _; with_reducible assumption)))) (fun hHeld => ?_)
        clear hK K
        try simp only [Act.put, List.setIfInBounds_toArray, List.set_cons_zero, List.set_cons_succ]
        refine wpAnyH_ready (rs := [6]) (by kernel_rfl) (by simp) ?_
        refine AllReadyH.cons (o := ⟨_, _, _, _, _, _⟩) rfl (fun K hK => ?_) AllReadyH.nil
        clear hHeld
        go_simp
        refine hK.out _ _ (by (refine KEEP.out _ ?_; (first | (with_reducible exact Only.of_below (by assumption)) | (with_reducible exact Only.refl _ _) | (with_reducible refine Only.drew ?_; with_reducible exact Only.refl _ _) | (with_reducible refine Only.alloc ?_ _; with_reducible exact Only.of_below (by assumption)) | (with_reducible assumption) | (with_reducible refine Only.setCell ?_ hSm _; with_reducible assumption)))) (fun hHeld => ?_)
        clear hK K
        try simp only [Act.put, List.setIfInBounds_toArray, List.set_cons_zero, List.set_cons_succ]
        refine wpAnyH_done (by kernel_rfl) ?_ _
        go_wp2_with fail
        go_meet
        case rel => exact ⟨rfl, hcut.out⟩
      · refine AllReadyH.cons (o := ⟨_, _, _, _, _, _⟩) rfl (fun K hK => ?_) AllReadyH.nil
        clear hHeld
        go_simp
        refine hK.out _ _ (by (refine KEEP.out _ ?_; (first | (with_reducible exact Only.of_below (by assumption)) | (with_reducible exact Only.refl _ _) | (with_reducible refine Only.drew ?_; with_reducible exact Only.refl _ _) | (with_reducible refine Only.alloc ?_ _; with_reducible exact Only.of_below (by assumption)) | (with_reducible assumption) | (with_reducible refine Only.setCell ?_ hSm _; with_reducible assumption)))) (fun hHeld => ?_)
        clear hK K
        try simp only [Act.put, List.setIfInBounds_toArray, List.set_cons_zero, List.set_cons_succ]
        refine wpAnyH_ready (rs := [0]) (by kernel_rfl) (by simp) ?_
        refine AllReadyH.cons (o := ⟨_, _, _, _, _, _⟩) rfl (fun K hK => ?_) AllReadyH.nil
        clear hHeld
        go_simp
        refine hK.out _ _ (by (refine KEEP.out _ ?_; (first | (with_reducible exact Only.of_below (by assumption)) | (with_reducible exact Only.refl _ _) | (with_reducible refine Only.drew ?_; with_reducible exact Only.refl _ _) | (with_reducible refine Only.alloc ?_ _; with_reducible exact Only.of_below (by assumption)) | (with_reducible assumption) | (with_reducible refine Only.setCell ?_ hSm _; with_reducible assumption)))) (fun hHeld => ?_)
        clear hK K
        try simp only [Act.put, List.setIfInBounds_toArray, List.set_cons_zero, List.set_cons_succ]
        refine wpAnyH_ready (rs := [5]) (by kernel_rfl) (by simp) ?_
        refine AllReadyH.cons (o := ⟨_, _, _, _, _, _⟩) rfl (fun K hK => ?_) AllReadyH.nil
        clear hHeld
        refine step_push_at elemB rfl (.tmp 27) (.tmp 31) rfl M (.slice aa kA.length ac) kA.length (kA.flatMap benc) (benc { x with pa := pa, pcap := pcap }) (by simp [Act.eval]) hA3.out (w0 := w3) rfl (by simp [Act.eval]) rfl (by simp [Sq.benc, Value.oneCell']) h63 hby hM3 ?_
        intro hb4 cap4 w4 hown4 ho4 hmv4
        have hB4 : Only S w2 w4 := (Only.of_below hB3).trans (ho4.mono HSB.out)
        obtain ⟨hcut, hcp4⟩ := HFIN.out w3 w4 pa pcap hb4 cap4 hB3 hO3.out hown4 ho4 hmv4
        have z4 : w4.cell? ⟨B + 3, 0, none⟩ = some (.slice aa kA.length ac) := hcp4.ag.cell 0
        have zf4 : w4.frozen? ⟨B + 3, 0, none⟩ = false := hcp4.ag.free 0
        replace hcut := hid hcut
        clear hown4 ho4 hmv4 hcp4
        refine hK.out _ _ (by (refine KEEP.out _ ?_; (first | (with_reducible exact Only.of_below (by assumption)) | (with_reducible exact Only.refl _ _) | (with_reducible refine Only.drew ?_; with_reducible exact Only.refl _ _) | (with_reducible refine Only.alloc ?_ _; with_reducible exact Only.of_below (by assumption)) | (with_reducible assumption) | (with_reducible refine Only.setCell ?_ hSm _; with_reducible assumption)))) (fun hHeld => ?_)
        clear hK K
        try simp only [Act.put, List.setIfInBounds_toArray, List.set_cons_zero, List.set_cons_succ]
        refine wpAnyH_ready (rs := [6]) (by kernel_rfl) (by simp) ?_
        refine AllReadyH.cons (o := ⟨_, _, _, _, _, _⟩) rfl (fun K hK => ?_) AllReadyH.nil
        clear hHeld
        go_simp
        refine hK.out _ _ (by (refine KEEP.out _ ?_; (first | (with_reducible exact Only.of_below (by assumption)) | (with_reducible exact Only.refl _ _) | (with_reducible refine Only.drew ?_; with_reducible exact Only.refl _ _) | (with_reducible refine Only.alloc ?_ _; with_reducible exact Only.of_below (by assumption)) | (with_reducible assumption) | (with_reducible refine Only.setCell ?_ hSm _; with_reducible assumption)))) (fun hHeld => ?_)
        clear hK K
        try simp only [Act.put, List.setIfInBounds_toArray, List.set_cons_zero, List.set_cons_succ]
        refine wpAnyH_done (by kernel_rfl) ?_ _
        go_wp2_with fail
        go_meet
        case rel => exact ⟨rfl, hcut.out⟩
  case rest =>
    obtain ⟨rfl, hcc⟩ := hcut
    have HL4 := hid hl4
    clear KEEP XO HFIN HB2 HK3 HR3 HC2 x0 x1 x2 x3 x4 a0 t0 hgl hgl2 hl2 HST HX HXX HOA HSB hSm hSn
    obtain ⟨ag', k', hbk, hoc, hmv, hst, hkx, hky⟩ := hcc
    have hcap := hst.caps
    obtain ⟨x0, x1, x2, x3, x4, xf⟩ := blk5' hkx
    obtain ⟨y0, y1, y2, y3, y4, yf⟩ := blk5' hky
    have n0 : wc.cell? ⟨B, 0, none⟩ = some (.int .i64 now) := hcap.now.cell 0
    have r0 : wc.cell? ⟨B + 1, 0, none⟩ = some (.int .i64 retry) := hcap.retry.cell 0
    have HCA := hid hcap
    have HST := hid hst
    have HOC := hid hoc
    have HMV := hid hmv
    have HBK := hid hbk
    have hlx := hkx.lt
    have hly := hky.lt
    have hl4c := hcap.lt
    have KEEP7 : Hid (∀ w', Only [W.heap.size] wc w' → w'.cell? ⟨B, 0, none⟩ = some (.int .i64 now) ∧ w'.cell? ⟨B + 1, 0, none⟩ = some (.int .i64 retry)) := hid (fun w' ho =>
      have hc := HCA.out.only ho (fun b hb => by simp at hb; omega)
      ⟨hc.now.cell 0, hc.retry.cell 0⟩)
    have HFIN7 : Hid (∀ w', Only [W.heap.size, W.heap.size + 1] wc w' → Hid (bk k' = bk x ∧ Only ((B + 3) :: blocks (.slice aa kA.length ac)) W w' ∧ Moves W.heap.size (blocks (.slice aa kA.length ac)) (blocks ag') ∧ St w' B M now retry tries (kA ++ [k']) kG ag' gv X)) := hid (fun w' ho => by
      have h4 := HL4.out
      have ho3 : Only (W.heap.size :: (W.heap.size + 1) :: (B + 3) :: blocks (.slice aa kA.length ac)) W w' := (HOC.out.mono (fun k hk => List.mem_cons_of_mem _ (List.mem_cons_of_mem _ hk))).trans (ho.mono (fun k hk => by simp at hk ⊢; rcases hk with h | h <;> simp [h]))
      exact hid ⟨HBK.out, only_cutF (only_cutF ho3 (Nat.le_refl _)) (by omega), HMV.out, (HST.out.only ho (fun b hb => by simp at hb ⊢; rcases hb with h | h <;> simp [h]) (fun b hb => by simp at hb; omega)).weaken (fun b hb => List.mem_cons_of_mem _ (List.mem_cons_of_mem _ hb))⟩)
    have hw : IntKind.i64.wrap (x.tries + 1) = x.tries + 1 := by rw [IntKind.wrap_i64]; omega
    clear hoc hcap hst hkx hky hmv hbk
    go_wp2_with fail
    refine wp_region_held_drew (S := (fun w' => w'.cell? ⟨B, 0, none⟩ = some (.int .i64 now) ∧ w'.cell? ⟨B + 1, 0, none⟩ = some (.int .i64 retry))) (by kernel_rfl) (by (refine KEEP7.out _ ?_; (repeat' (first | (with_reducible exact Only.refl _ _) | (with_reducible refine Only.drew ?_) | (with_reducible refine Only.setCell ?_ (by simp) _))))) (fun hHeld => ?_)
    refine wpAnyH_take (i := 0) (oi := ⟨_, _, _, _, _, _⟩) (v := ?_) rfl (by kernel_rfl) (by kernel_rfl) (by kernel_rfl) (fun _ _ _ h => h) (Or.inl ⟨by rfl, ?_⟩) hHeld ?_
    rotate_left
    · (intro w hSw; (try dsimp only at hSw); go_simp) <;> with_reducible rfl
    try simp only [Act.put, List.setIfInBounds_toArray, List.set_cons_zero, List.set_cons_succ]
    refine wpAnyH_take (i := 3) (oi := ⟨_, _, _, _, _, _⟩) (v := ?_) rfl (by kernel_rfl) (by kernel_rfl) (by kernel_rfl) (fun _ _ _ h => h) (Or.inl ⟨by rfl, ?_⟩) hHeld ?_
    rotate_left
    · (intro w hSw; (try dsimp only at hSw); go_simp) <;> with_reducible rfl
    try simp only [Act.put, List.setIfInBounds_toArray, List.set_cons_zero, List.set_cons_succ]
    refine wpAnyH_take (i := 4) (oi := ⟨_, _, _, _, _, _⟩) (v := ?_) rfl (by kernel_rfl) (by kernel_rfl) (by kernel_rfl) (fun _ _ _ h => h) (Or.inl ⟨by rfl, ?_⟩) hHeld ?_
    rotate_left
    · (intro w hSw; (try dsimp only at hSw); go_simp) <;> with_reducible rfl
    try simp only [Act.put, List.setIfInBounds_toArray, List.set_cons_zero, List.set_cons_succ]
    refine wpAnyH_ready (rs := [1, 5]) (by kernel_rfl) (by simp) ?_
    refine AllReadyH.cons (o := ⟨_, _, _, _, _, _⟩) rfl (fun K hK => ?_) ?_
    · clear hHeld
      go_simp
      refine hK.out _ _ (by (refine KEEP7.out _ ?_; (repeat' (first | (with_reducible exact Only.refl _ _) | (with_reducible refine Only.drew ?_) | (with_reducible refine Only.setCell ?_ (by simp) _))))) (fun hHeld => ?_)
      clear hK K
      try simp only [Act.put, List.setIfInBounds_toArray, List.set_cons_zero, List.set_cons_succ]
      refine wpAnyH_take (i := 2) (oi := ⟨_, _, _, _, _, _⟩) (v := ?_) rfl (by kernel_rfl) (by kernel_rfl) (by kernel_rfl) (fun _ _ _ h => h) (Or.inl ⟨by rfl, ?_⟩) hHeld ?_
      rotate_left
      · (intro w hSw; (try dsimp only at hSw); go_simp) <;> with_reducible rfl
      try simp only [Act.put, List.setIfInBounds_toArray, List.set_cons_zero, List.set_cons_succ]
      refine wpAnyH_take (i := 6) (oi := ⟨_, _, _, _, _, _⟩) (v := ?_) rfl (by kernel_rfl) (by kernel_rfl) (by kernel_rfl) (fun _ _ _ h => h) (Or.inl ⟨by rfl, ?_⟩) hHeld ?_
      rotate_left
      · (intro w hSw; (try dsimp only at hSw); go_simp) <;> with_reducible rfl
      try simp only [Act.put, List.setIfInBounds_toArray, List.set_cons_zero, List.set_cons_succ]
      refine wpAnyH_ready (rs := [5]) (by kernel_rfl) (by simp) ?_
      refine AllReadyH.cons (o := ⟨_, _, _, _, _, _⟩) rfl (fun K hK => ?_) AllReadyH.nil
      clear hHeld
      go_simp
      go_at_call 79
      refine (XD.out _).mono ?_
      rintro e w' ⟨rfl, rfl⟩
      refine hK.out _ _ (by (refine KEEP7.out _ ?_; (repeat' (first | (with_reducible exact Only.refl _ _) | (with_reducible refine Only.drew ?_) | (with_reducible refine Only.setCell ?_ (by simp) _))))) (fun hHeld => ?_)
      clear hK K
      try simp only [Act.put, List.setIfInBounds_toArray, List.set_cons_zero, List.set_cons_succ]
      refine wpAnyH_ready (rs := [7]) (by kernel_rfl) (by simp) ?_
      refine AllReadyH.cons (o := ⟨_, _, _, _, _, _⟩) rfl (fun K hK => ?_) AllReadyH.nil
      clear hHeld
      go_simp
      refine hK.out _ _ (by (refine KEEP7.out _ ?_; (repeat' (first | (with_reducible exact Only.refl _ _) | (with_reducible refine Only.drew ?_) | (with_reducible refine Only.setCell ?_ (by simp) _))))) (fun hHeld => ?_)
      clear hK K
      try simp only [Act.put, List.setIfInBounds_toArray, List.set_cons_zero, List.set_cons_succ]
      refine wpAnyH_take (i := 8) (oi := ⟨_, _, _, _, _, _⟩) (v := ?_) rfl (by kernel_rfl) (by kernel_rfl) (by kernel_rfl) (fun _ _ _ h => h) (Or.inl ⟨by rfl, ?_⟩) hHeld ?_
      rotate_left
      · (intro w hSw; (try dsimp only at hSw); go_simp) <;> with_reducible rfl
      try simp only [Act.put, List.setIfInBounds_toArray, List.set_cons_zero, List.set_cons_succ]
      refine wpAnyH_ready (rs := [9]) (by kernel_rfl) (by simp) ?_
      refine AllReadyH.cons (o := ⟨_, _, _, _, _, _⟩) rfl (fun K hK => ?_) AllReadyH.nil
      clear hHeld
      go_simp
      refine hK.out _ _ (by (refine KEEP7.out _ ?_; (repeat' (first | (with_reducible exact Only.refl _ _) | (with_reducible refine Only.drew ?_) | (with_reducible refine Only.setCell ?_ (by simp) _))))) (fun hHeld => ?_)
      clear hK K
      try simp only [Act.put, List.setIfInBounds_toArray, List.set_cons_zero, List.set_cons_succ]
      refine wpAnyH_done (by kernel_rfl) ?_ _
      go_wp2_with fail
      refine bodyPost_ret (by simp [results, Try.results76, go_sem, x0, x1, x2, x3, x4, y0, y1, y2, y3, y4]; try rfl) rfl ?_
      refine ⟨_, _, by rw [HDD.out], HFIN7.out _ ?_⟩
      repeat' (first | (with_reducible exact Only.refl _ _) | (with_reducible refine Only.drew ?_) | (with_reducible refine Only.setCell ?_ (by simp) _))
    · refine AllReadyH.cons (o := ⟨_, _, _, _, _, _⟩) rfl (fun K hK => ?_) AllReadyH.nil
      clear hHeld
      go_simp
      go_at_call 79
      refine (XD.out _).mono ?_
      rintro e w' ⟨rfl, rfl⟩
      refine hK.out _ _ (by (refine KEEP7.out _ ?_; (repeat' (first | (with_reducible exact Only.refl _ _) | (with_reducible refine Only.drew ?_) | (with_reducible refine Only.setCell ?_ (by simp) _))))) (fun hHeld => ?_)
      clear hK K
      try simp only [Act.put, List.setIfInBounds_toArray, List.set_cons_zero, List.set_cons_succ]
      refine wpAnyH_ready (rs := [1]) (by kernel_rfl) (by simp) ?_
      refine AllReadyH.cons (o := ⟨_, _, _, _, _, _⟩) rfl (fun K hK => ?_) AllReadyH.nil
      clear hHeld
      go_simp
      refine hK.out _ _ (by (refine KEEP7.out _ ?_; (repeat' (first | (with_reducible exact Only.refl _ _) | (with_reducible refine Only.drew ?_) | (with_reducible refine Only.setCell ?_ (by simp) _))))) (fun hHeld => ?_)
      clear hK K
      try simp only [Act.put, List.setIfInBounds_toArray, List.set_cons_zero, List.set_cons_succ]
      refine wpAnyH_take (i := 2) (oi := ⟨_, _, _, _, _, _⟩) (v := ?_) rfl (by kernel_rfl) (by kernel_rfl) (by kernel_rfl) (fun _ _ _ h => h) (Or.inl ⟨by rfl, ?_⟩) hHeld ?_
      rotate_left
      · (intro w hSw; (try dsimp only at hSw); go_simp) <;> with_reducible rfl
      try simp only [Act.put, List.setIfInBounds_toArray, List.set_cons_zero, List.set_cons_succ]
      refine wpAnyH_take (i := 6) (oi := ⟨_, _, _, _, _, _⟩) (v := ?_) rfl (by kernel_rfl) (by kernel_rfl) (by kernel_rfl) (fun _ _ _ h => h) (Or.inl ⟨by rfl, ?_⟩) hHeld ?_
      rotate_left
      · (intro w hSw; (try dsimp only at hSw); go_simp) <;> with_reducible rfl
      try simp only [Act.put, List.setIfInBounds_toArray, List.set_cons_zero, List.set_cons_succ]
      refine wpAnyH_ready (rs := [7]) (by kernel_rfl) (by simp) ?_
      refine AllReadyH.cons (o := ⟨_, _, _, _, _, _⟩) rfl (fun K hK => ?_) AllReadyH.nil
      clear hHeld
      go_simp
      refine hK.out _ _ (by (refine KEEP7.out _ ?_; (repeat' (first | (with_reducible exact Only.refl _ _) | (with_reducible refine Only.drew ?_) | (with_reducible refine Only.setCell ?_ (by simp) _))))) (fun hHeld => ?_)
      clear hK K
      try simp only [Act.put, List.setIfInBounds_toArray, List.set_cons_zero, List.set_cons_succ]
      refine wpAnyH_take (i := 8) (oi := ⟨_, _, _, _, _, _⟩) (v := ?_) rfl (by kernel_rfl) (by kernel_rfl) (by kernel_rfl) (fun _ _ _ h => h) (Or.inl ⟨by rfl, ?_⟩) hHeld ?_
      rotate_left
      · (intro w hSw; (try dsimp only at hSw); go_simp) <;> with_reducible rfl
      try simp only [Act.put, List.setIfInBounds_toArray, List.set_cons_zero, List.set_cons_succ]
      refine wpAnyH_ready (rs := [9]) (by kernel_rfl) (by simp) ?_
      refine AllReadyH.cons (o := ⟨_, _, _, _, _, _⟩) rfl (fun K hK => ?_) AllReadyH.nil
      clear hHeld
      go_simp
      refine hK.out _ _ (by (refine KEEP7.out _ ?_; (repeat' (first | (with_reducible exact Only.refl _ _) | (with_reducible refine Only.drew ?_) | (with_reducible refine Only.setCell ?_ (by simp) _))))) (fun hHeld => ?_)
      clear hK K
      try simp only [Act.put, List.setIfInBounds_toArray, List.set_cons_zero, List.set_cons_succ]
      refine wpAnyH_done (by kernel_rfl) ?_ _
      go_wp2_with fail
      refine bodyPost_ret (by simp [results, Try.results76, go_sem, x0, x1, x2, x3, x4, y0, y1, y2, y3, y4]; try rfl) rfl ?_
      refine ⟨_, _, by rw [HDD.out], HFIN7.out _ ?_⟩
      repeat' (first | (with_reducible exact Only.refl _ _) | (with_reducible refine Only.drew ?_) | (with_reducible refine Only.setCell ?_ (by simp) _))
end C26
end Go.Proofs.Ytcohcanakicmpaa
