/- Walks of layer 26 (flight): the closure of Step, what is given up; no condition. -/
import Derived.Test.YtdamnbldimompaaI26
namespace Go.Peri
theorem only_cutF {x : Nat} {F : List Nat} {w w' : World} (h : Only (x :: F) w w') (hx : w.heap.size ≤ x) : Only F w w' :=
  ⟨h.os, h.tape, h.output, h.size, fun k hk hf => h.block k hk (fun hm => (List.mem_cons.1 hm).elim (fun e => by omega) hf)⟩
end Go.Peri
namespace Go.Proofs.Ytdamnbldimompaa
open Go.RowKit Go.Peri
open Gen (flat_set set_mid get_mid map_take_snoc owns_at owns_num owns_le owns_below owns_form)
namespace C26
open Sq (rest ixQ atQ total bk benc)
theorem benc_len (k : Sq) : (benc k).length = 3 := rfl
theorem bat_fin {w1 w' : World} {base : Nat} {v : Value} {k : Sq} (hk : k.At (· < w1.heap.size) w1) (hown : w'.ownsRow base 60 3 v 1 (benc k)) (hb : Below w1.heap.size w1 w') : BAt w' (bk k) v := by
  obtain ⟨a, cap, rfl⟩ := owns_form hown
  have hr : RowsOf (fun b => base ≤ b ∧ b < w'.heap.size) benc 3 w' (.slice a [k].length cap) [k] := RowsOf.of_owns (l := [k]) benc_len (by simpa using hown)
  exact ⟨a, cap, k, rfl, rfl, hr.imp (fun b hb => hb.2), (hk.below hb (fun _ h => h)).imp (fun b h => Nat.lt_of_lt_of_le h hb.size)⟩
theorem BAt.only {S : List Nat} {w w' : World} {base : Nat} {v : Value} {k : Sq} (hown : w.ownsRow base 60 3 v 1 (benc k)) (hk : k.At (fun b => b < w.heap.size ∧ b ∉ S) w) (ho : Only S w w') (hs : ∀ b, b ∈ S → b < base) : BAt w' (bk k) v := by
  have hd : Disj (blocks v) S := fun b hb hm => by
    have h1 := (owns_bd hown b hb).1
    have h2 := hs b hm
    omega
  obtain ⟨a, cap, rfl⟩ := owns_form hown
  have hr : RowsOf (fun b => base ≤ b ∧ b < w'.heap.size) benc 3 w' (.slice a [k].length cap) [k] := RowsOf.of_owns (l := [k]) benc_len (by simpa using owns_keep hown ho hd)
  exact ⟨a, cap, k, rfl, rfl, hr.imp (fun b hb => hb.2), (hk.only ho (fun b h => h)).imp (fun b h => Nat.lt_of_lt_of_le h.1 ho.size)⟩
set_option maxRecDepth 100000 in
set_option maxHeartbeats 4000000 in
theorem litB (x : Sq) (B : Nat) (now retry tries : Int) (ag : Value) (W : World) (h : Caps W B now retry tries ag (.slice none 0 0)) (hx : x.At (fun b => b < W.heap.size ∧ (b < B ∨ B + 4 < b)) W) (hge : ¬ clk now < x.due) (htr : tries ≤ x.tries) :
    Calls Try.prog 46 #[.agg #[.int .i64 x.node, .int .i64 x.seq, .slice x.pa x.sp.length x.pcap, .int .i64 x.tries, .int .i64 x.due], .pointer (some ⟨B, 0, none⟩), .pointer (some ⟨B + 2, 0, none⟩), .pointer (some ⟨B + 4, 0, none⟩), .pointer (some ⟨B + 3, 0, none⟩), .pointer (some ⟨B + 1, 0, none⟩)] W fun e w' => ∃ v, e = .returned (.tuple #[.agg #[.int .i64 x.node, .int .i64 x.seq, .slice x.pa x.sp.length x.pcap, .int .i64 x.tries, .int .i64 x.due], .bool false]) ∧ Only [B + 4] W w' ∧ Hid (Caps w' B now retry tries ag v ∧ BAt w' (bk x) v) := by
  have HCP := hid h
  have hl4 := h.lt
  have HX := hid hx
  clear h hx
  go_enter Try.func46, Try.ntmps46
  go_upto_region 1 with fail
  refine wp_genF ?_
  intro w1 hw1
  have hb1 : Below W.heap.size W w1 := by rw [hw1]; go_grown
  have hk1 : Blk w1 W.heap.size #[.int .i64 x.node, .int .i64 x.seq, .slice x.pa x.sp.length x.pcap, .int .i64 x.tries, .int .i64 x.due] 62 := by rw [hw1]; exact (Blk.new _ _ _).alloc _
  have hk2 : Blk w1 (W.heap.size + 1) #[.int .i64 0, .int .i64 0, .slice none 0 0, .int .i64 0, .int .i64 0] 62 := by rw [hw1]; exact Blk.new' _ _ _ (by simp)
  clear hw1
  have HB1 := hid hb1
  have HK1 := hid hk1
  have HK2 := hid hk2
  have HC1 := hid (HCP.out.later hb1)
  obtain ⟨x0, x1, x2, x3, x4, -⟩ := blk5' hk1
  have c0 := HC1.out.now.cell 0
  simp only [List.getElem?_toArray, List.getElem?_cons_zero] at c0
  have hlx := hk1.lt
  have hlB : B < w1.heap.size := HC1.out.now.lt
  clear hb1 hk1 hk2
  have XC : Hid (∀ z : BW w1, Calls Try.prog 47 #[.int .i64 now] z.val fun e w' => e = .returned (.int .i64 (clk now)) ∧ z.val = w') := hid (fun z => clock_any now z.val)
  obtain ⟨cl, hcl⟩ : ∃ c, clk now = c := ⟨_, rfl⟩
  rw [hcl] at XC hge
  clear hcl
  have hltf : ¬ cl < x.due := hge
  go_wp2_with fail
  refine wp_region_bw (by kernel_rfl) (by kernel_rfl) ?_
  repeat (go_big_quiet_step ((go_at_call 47; exact bw_same (XC.out _))))
  refine wpQuiet_nil ?_
  rintro w2 ⟨⟨_, hb2⟩, rfl⟩
  have HB2 := hid (HB1.out.trans (hb2.mono HB1.out.size))
  have HK3 := hid (HK1.out.later hb2)
  have HR3 := hid (HK2.out.later hb2)
  have HC2 := hid (HC1.out.later hb2)
  have hl2 := (HK2.out.later hb2).lt
  clear hb2 x0 x1 x2 x3 x4 c0 XC hlx HK1 HK2 HC1 HB1 hlB
  obtain ⟨x0, x1, x2, x3, x4, -⟩ := blk5' HK3.out
  have g0 : w2.cell? ⟨B + 4, 0, none⟩ = some (.slice none 0 0) := HC2.out.gv.cell 0
  have t0 : w2.cell? ⟨B + 2, 0, none⟩ = some (.int .i64 tries) := HC2.out.tries.cell 0
  have hgl : B + 4 < w2.heap.size := HC2.out.lt
  have h63 : 0 + 1 ≤ maxLen := by decide
  have hby : (0 + 1) * 40 ≤ 140737488355328 := by decide
  go_upto_region 5 with (at_builtin; refine wpList_push (w0 := w2) (T := 60) (news := benc x) elemB rfl _ _ rfl w2.heap.size (.slice none 0 0) 0 [] rfl (World.ownsRow_nil _ _ _ _) rfl rfl rfl (by simp [Sq.benc, Value.oneCell']) h63 hby (Nat.le_refl _) ?_; intro v3' w3 hown3 hb3; obtain ⟨a3, cap3, rfl⟩ := owns_form hown3; have g3 : w3.cell? ⟨B + 4, 0, none⟩ = some (.slice none 0 0) := (HC2.out.later hb3).gv.cell 0; have gf3 : w3.frozen? ⟨B + 4, 0, none⟩ = false := (HC2.out.later hb3).gv.free 0; have HB3 := hid hb3; have HO3 := hid hown3; clear hb3 hown3)
  refine wp_genF ?_
  intro w4 hw4
  have ho4 : Only [B + 4] w3 w4 := by rw [hw4]; exact (Only.refl _ _).setCell (by simp) _
  have hc4 : Caps w4 B now retry tries ag (.slice a3 1 cap3) := by rw [hw4]; exact (HC2.out.later HB3.out).setGv _
  have hk4 : Blk w4 W.heap.size #[.int .i64 x.node, .int .i64 x.seq, .slice x.pa x.sp.length x.pcap, .int .i64 x.tries, .int .i64 x.due] 62 := (HK3.out.later HB3.out).only ho4 (by simp; omega)
  have hr4 : Blk w4 (W.heap.size + 1) #[.int .i64 0, .int .i64 0, .slice none 0 0, .int .i64 0, .int .i64 0] 62 := (HR3.out.later HB3.out).only ho4 (by simp; omega)
  clear hw4
  have HO4 := hid ho4
  have HC4 := hid hc4
  clear x0 x1 x2 x3 x4 g0 t0 g3 gf3
  obtain ⟨x0, x1, x2, x3, x4, -⟩ := blk5' hk4
  obtain ⟨y0, y1, y2, y3, y4, yf⟩ := blk5' hr4
  have hl5 := hr4.lt
  have hlx := hk4.lt
  have HL4 := hid hl4
  clear ho4 hc4 hk4 hr4 HK3 HR3 hl4 hgl
  have HFIN : Hid (∀ w', Only [W.heap.size + 1] w4 w' → Only [B + 4] W w' ∧ Hid (Caps w' B now retry tries ag (.slice a3 1 cap3) ∧ BAt w' (bk x) (.slice a3 1 cap3))) := hid (fun w' ho => by
    have hb12 : Below W.heap.size W w3 := HB2.out.trans (HB3.out.mono HB2.out.size)
    have h4 := HL4.out
    have ho5 : Only [W.heap.size + 1, B + 4] w3 w' := (HO4.out.mono (by simp)).trans (ho.mono (by simp))
    refine ⟨only_cutF ((Only.of_below hb12).trans ho5) (by omega), hid ⟨HC4.out.only ho (fun b hb => by simp at hb; omega), ?_⟩⟩
    have hbw : W.heap.size + 1 < w2.heap.size := hl2
    refine BAt.only HO3.out ?_ ho5 (fun b hb => by simp at hb; omega)
    exact (HX.out.below hb12 (fun b h => h.1)).imp (fun b h => ⟨Nat.lt_of_lt_of_le h.1 hb12.size, by simp; omega⟩))
  clear HX HCP HB2 HB3 HO3 HO4 HC4 HC2
  go_wp2_with fail
  refine bodyPost_ret (by simp [results, Try.results46, go_sem, y0, y1, y2, y3, y4]; try rfl) rfl ?_
  refine ⟨_, rfl, HFIN.out _ ?_⟩
  iterate 5 (refine Only.setCell ?_ (by simp) _)
  exact Only.refl _ _
end C26
end Go.Proofs.Ytdamnbldimompaa
