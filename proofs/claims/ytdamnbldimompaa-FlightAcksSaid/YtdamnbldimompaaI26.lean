/- Walks of layer 26 (flight): the closure of Step; no condition. -/
import Derived.Test.YtdamnbldimompaaG26
namespace Go.Proofs.Ytdamnbldimompaa
open Go.RowKit Go.Peri
open Gen (flat_set set_mid get_mid map_take_snoc owns_at owns_num owns_le owns_below owns_form)
namespace C26
open Sq (rest ixQ atQ total bk benc)
theorem elemB : Elem Try.prog 64 60 3 40 := Elem.mk' (z := .agg #[.int .i64 0, .int .i64 0, .slice none 0 0]) Try.underlying64 (by kernel_rfl) rfl (by decide)
/-- What the closure holds: the time, when again, how often; what is sent again, what is given up. -/
structure Caps (w : World) (B : Nat) (now retry tries : Int) (ag gv : Value) : Prop where
  now : Blk w B #[.int .i64 now] 3
  retry : Blk w (B + 1) #[.int .i64 retry] 3
  tries : Blk w (B + 2) #[.int .i64 tries] 3
  ag : Blk w (B + 3) #[ag] 64
  gv : Blk w (B + 4) #[gv] 64
theorem Caps.later {w w' : World} {B : Nat} {now retry tries : Int} {ag gv : Value} (h : Caps w B now retry tries ag gv) (hb : Below w.heap.size w w') : Caps w' B now retry tries ag gv := ⟨h.now.later hb, h.retry.later hb, h.tries.later hb, h.ag.later hb, h.gv.later hb⟩
theorem Caps.lt {w : World} {B : Nat} {now retry tries : Int} {ag gv : Value} (h : Caps w B now retry tries ag gv) : B + 4 < w.heap.size := h.gv.lt
theorem Caps.only {w w' : World} {S : List Nat} {B : Nat} {now retry tries : Int} {ag gv : Value} (h : Caps w B now retry tries ag gv) (ho : Only S w w') (hs : ∀ b, b ∈ S → b < B ∨ B + 4 < b) : Caps w' B now retry tries ag gv :=
  ⟨h.now.only ho (fun hm => by have := hs _ hm; omega), h.retry.only ho (fun hm => by have := hs _ hm; omega), h.tries.only ho (fun hm => by have := hs _ hm; omega), h.ag.only ho (fun hm => by have := hs _ hm; omega), h.gv.only ho (fun hm => by have := hs _ hm; omega)⟩
theorem Caps.setGv {w : World} {B : Nat} {now retry tries : Int} {ag gv : Value} (h : Caps w B now retry tries ag gv) (v : Value) : Caps (w.setCell ⟨B + 4, 0, none⟩ v) B now retry tries ag v :=
  have ho : Only [B + 4] w (w.setCell ⟨B + 4, 0, none⟩ v) := (Only.refl _ _).setCell (by simp) _
  ⟨h.now.only ho (by simp), h.retry.only ho (by simp), h.tries.only ho (by simp), h.ag.only ho (by simp), h.gv.set 0 v⟩
theorem Caps.setAg {w : World} {B : Nat} {now retry tries : Int} {ag gv : Value} (h : Caps w B now retry tries ag gv) (v : Value) : Caps (w.setCell ⟨B + 3, 0, none⟩ v) B now retry tries v gv :=
  have ho : Only [B + 3] w (w.setCell ⟨B + 3, 0, none⟩ v) := (Only.refl _ _).setCell (by simp) _
  ⟨h.now.only ho (by simp), h.retry.only ho (by simp), h.tries.only ho (by simp), h.ag.set 0 v, h.gv.only ho (by simp)⟩
/-- A row of one batch. -/
def BAt (w : World) (q : Int × Int × List Sp) (v : Value) : Prop := ∃ (a : Option Addr) (cap : Nat) (k : Sq), v = .slice a 1 cap ∧ bk k = q ∧ RowsOf (· < w.heap.size) benc 3 w (.slice a 1 cap) [k] ∧ k.At (· < w.heap.size) w
theorem BAt.later {w w' : World} {q : Int × Int × List Sp} {v : Value} (h : BAt w q v) (hb : Below w.heap.size w w') : BAt w' q v := by
  obtain ⟨a, cap, k, h0, h1, h2, h3⟩ := h
  exact ⟨a, cap, k, h0, h1, (RowsOf.below h2 hb (fun _ h => h)).imp (fun b h => Nat.lt_of_lt_of_le h hb.size), (h3.below hb (fun _ h => h)).imp (fun b h => Nat.lt_of_lt_of_le h hb.size)⟩
set_option maxRecDepth 100000 in
set_option maxHeartbeats 4000000 in
theorem litA (x : Sq) (B : Nat) (now retry tries : Int) (ag gv : Value) (W : World) (h : Caps W B now retry tries ag gv) (hlt : clk now < x.due) :
    Calls Try.prog 46 #[.agg #[.int .i64 x.node, .int .i64 x.seq, .slice x.pa x.sp.length x.pcap, .int .i64 x.tries, .int .i64 x.due], .pointer (some ⟨B, 0, none⟩), .pointer (some ⟨B + 2, 0, none⟩), .pointer (some ⟨B + 4, 0, none⟩), .pointer (some ⟨B + 3, 0, none⟩), .pointer (some ⟨B + 1, 0, none⟩)] W fun e w' => e = .returned (.tuple #[.agg #[.int .i64 x.node, .int .i64 x.seq, .slice x.pa x.sp.length x.pcap, .int .i64 x.tries, .int .i64 x.due], .bool true]) ∧ Below W.heap.size W w' := by
  have HCP := hid h
  have hl4 := h.lt
  clear h
  go_enter Try.func46, Try.ntmps46
  go_upto_region 1 with fail
  refine wp_genF ?_
  intro w1 hw1
  have hb1 : Below W.heap.size W w1 := by rw [hw1]; go_grown
  have hk1 : Blk w1 W.heap.size #[.int .i64 x.node, .int .i64 x.seq, .slice x.pa x.sp.length x.pcap, .int .i64 x.tries, .int .i64 x.due] 62 := by rw [hw1]; exact (Blk.new _ _ _).alloc _
  have hk2 : Blk w1 (W.heap.size + 1) #[.int .i64 0, .int .i64 0, .slice none 0 0, .int .i64 0, .int .i64 0] 62 := by rw [hw1]; exact Blk.new' _ _ _ (by simp)
  clear hw1
  have HB1 := hid hb1
  have HK1 := hid hk1
  have HK2 := hid hk2
  have HC1 := hid (HCP.out.later hb1)
  obtain ⟨x0, x1, x2, x3, x4, -⟩ := blk5' hk1
  have c0 := HC1.out.now.cell 0
  simp only [List.getElem?_toArray, List.getElem?_cons_zero] at c0
  have hlx := hk1.lt
  have hlB : B < w1.heap.size := HC1.out.now.lt
  clear hb1 hk1 hk2
  have XC : Hid (∀ z : BW w1, Calls Try.prog 47 #[.int .i64 now] z.val fun e w' => e = .returned (.int .i64 (clk now)) ∧ z.val = w') := hid (fun z => clock_any now z.val)
  obtain ⟨cl, hcl⟩ : ∃ c, clk now = c := ⟨_, rfl⟩
  rw [hcl] at XC hlt
  clear hcl
  go_wp2_with fail
  refine wp_region_bw (by kernel_rfl) (by kernel_rfl) ?_
  repeat (go_big_quiet_step ((go_at_call 47; exact bw_same (XC.out _))))
  refine wpQuiet_nil ?_
  rintro w2 ⟨⟨_, hb2⟩, rfl⟩
  have HB2 := hid (HB1.out.trans (hb2.mono HB1.out.size))
  obtain ⟨u0, u1, u2, u3, u4, -⟩ := blk5' (HK1.out.later hb2)
  obtain ⟨y0, y1, y2, y3, y4, yf⟩ := blk5' (HK2.out.later hb2)
  have hl2 := (HK2.out.later hb2).lt
  clear hb2 x0 x1 x2 x3 x4 c0 XC hlx
  go_wp2_with fail
  refine bodyPost_ret (by simp [results, Try.results46, go_sem, y0, y1, y2, y3, y4]; try rfl) rfl ?_
  refine ⟨rfl, HB2.out.trans (Only.below (S := [W.heap.size + 1]) ?_ HB2.out.size (fun b hb => by simp at hb; omega))⟩
  iterate 5 (refine Only.setCell ?_ (by simp) _)
  exact Only.refl _ _
end C26
end Go.Proofs.Ytdamnbldimompaa
