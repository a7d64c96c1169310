/- Walks of layer 17 (snap): counters; texts cloned; a holder's state; New; no condition. Walks of layer 17 (snap): tables copied; Get; no condition. Walks of layer 17 (snap): Get, judge, Push; no condition. Walks of layer 17 (snap): Push; no condition. Walks of layer 17 (snap): the document's Push; no condition. Tables in a list; contracts of layer 17 (snap) in the form in which the laws use them; a nil holder. No condition. -/
import Derived.Test.YtmmmaldpalhjeaaMg11
import Derived.Laws.LoneSync
import Derived.Deep.Cut
import Derived.Deep.RegionHeld3
import Derived.Test.YtmmmaldpalhjeaaMg12
import Derived.Test.YtmmmaldpalhjeaaMg13
namespace Go.Peri
open Go.RowKit
/-- A table whose rows do not lie in the blocks S. -/
structure TabN (w : World) (S : List Nat) (l : List Rl) (a : Option Addr) (cap : Nat) (f : ByteArray) : Prop where
  tab : TabV w w.heap.size l a cap f
  rows : RowsOf (fun b => b < w.heap.size ∧ b ∉ S) Rl.enc 10 w (.slice a l.length cap) l
  wf : ∀ x ∈ l, x.At (fun b => b < w.heap.size ∧ b ∉ S) w
theorem TabN.only {w w' : World} {S S' : List Nat} {l : List Rl} {a : Option Addr} {cap : Nat} {f : ByteArray} (h : TabN w S l a cap f) (hs : ∀ k, k ∈ S' → k ∈ S) (ho : Only S' w w') : TabN w' S l a cap f := by
  have hr : RowsOf (fun b => b < w'.heap.size ∧ b ∉ S) Rl.enc 10 w' (.slice a l.length cap) l := (h.rows.only ho (fun b hb => ⟨hb.1, fun h => hb.2 (hs b h)⟩)).imp (fun b hb => ⟨Nat.lt_of_lt_of_le hb.1 ho.size, hb.2⟩)
  have hx : ∀ x ∈ l, x.At (fun b => b < w'.heap.size ∧ b ∉ S) w' := fun x hx => ((h.wf x hx).only ho (fun b hb => ⟨hb.1, fun h => hb.2 (hs b h)⟩)).imp (fun b hb => ⟨Nat.lt_of_lt_of_le hb.1 ho.size, hb.2⟩)
  exact ⟨⟨hr.imp (fun b hb => hb.1), h.tab.len, fun x hx' => ⟨(hx x hx').imp (fun b hb => hb.1), (h.tab.wf x hx').len, (h.tab.wf x hx').preds, (h.tab.wf x hx').rank, (h.tab.wf x hx').target, (h.tab.wf x hx').mirror⟩, h.tab.f⟩, hr, hx⟩
/-- A holder: its names, the table that is held, what was taken and refused; its rows do not lie in the blocks S. -/
structure Hold (T : TypeId) (w : World) (g : Nat) (S : List Nat) (vn : Value) (ns : List ByteArray) (n : Int) (l : List Rl) (a : Option Addr) (cap : Nat) (f : ByteArray) (tk rf : Int) : Prop where
  mem : g ∈ S
  lt : ∀ k, k ∈ S → k < w.heap.size
  blk : Blk w g #[vn, .int .i64 n, .slice a l.length cap, .string f, .int .i64 n, .int .i64 tk, .int .i64 rf] T
  names : RowsOf (fun b => b < w.heap.size ∧ b ∉ S) sEnc 1 w vn ns
  tab : TabN w S l a cap f
section
variable {T : TypeId} {w w' : World} {g : Nat} {S : List Nat} {vn : Value} {ns : List ByteArray} {n : Int} {l : List Rl} {a : Option Addr} {cap : Nat} {f : ByteArray} {tk rf : Int}
theorem Hold.only {S' : List Nat} (h : Hold T w g S vn ns n l a cap f tk rf) (hs : ∀ k, k ∈ S' → k ∈ S) (hg : g ∉ S') (ho : Only S' w w') : Hold T w' g S vn ns n l a cap f tk rf :=
  ⟨h.mem, fun k hk => Nat.lt_of_lt_of_le (h.lt k hk) ho.size, h.blk.only ho hg, (h.names.only ho (fun b hb => ⟨hb.1, fun h => hb.2 (hs b h)⟩)).imp (fun _ hb => ⟨Nat.lt_of_lt_of_le hb.1 ho.size, hb.2⟩), h.tab.only hs ho⟩
theorem Hold.only0 (h : Hold T w g S vn ns n l a cap f tk rf) (hb : Below w.heap.size w w') : Hold T w' g S vn ns n l a cap f tk rf :=
  h.only (S' := []) (by simp) (by simp) (Only.of_below hb)
/-- One block more that is not touched. -/
theorem Hold.more {b : Nat} (h : Hold T w g S vn ns n l a cap f tk rf) (hb : Below w.heap.size w w') (h1 : w.heap.size ≤ b) (h2 : b < w'.heap.size) : Hold T w' g (b :: S) vn ns n l a cap f tk rf := by
  have hh := h.only0 hb
  refine ⟨by simp [h.mem], fun k hk => ?_, hh.blk, (h.names.below hb (fun _ hb => hb.1)).imp (fun c hc => ⟨Nat.lt_of_lt_of_le hc.1 hb.size, ?_⟩), ⟨hh.tab.tab, (h.tab.rows.below hb (fun _ hb => hb.1)).imp (fun c hc => ⟨Nat.lt_of_lt_of_le hc.1 hb.size, ?_⟩), fun x hx => ((h.tab.wf x hx).below hb (fun _ hb => hb.1)).imp (fun c hc => ⟨Nat.lt_of_lt_of_le hc.1 hb.size, ?_⟩)⟩⟩
  · rcases List.mem_cons.1 hk with rfl | hk
    · exact h2
    · exact hh.lt k hk
  · simp only [List.mem_cons, not_or]; exact ⟨by omega, hc.2⟩
  · simp only [List.mem_cons, not_or]; exact ⟨by omega, hc.2⟩
  · simp only [List.mem_cons, not_or]; exact ⟨by omega, hc.2⟩
end
end Go.Peri
namespace Go.Proofs.Ytmmmaldpalhjeaa
open Go.RowKit Go.Peri
namespace C17
open C12 (wp_gen)
theorem load64 (a : Addr) (x : Int) (w : World) (h : w.cell? a = some (.int .i64 x)) : Calls Try.prog 129 #[.pointer (some a)] w fun e w' => e = .returned (.int .i64 x) ∧ w = w' := by
  have hl := run_call_load (P := Try.prog) Try.func183 (by kernel_rfl) (by kernel_rfl) (by kernel_rfl) .i64 (by kernel_rfl) h
  go_enter Try.func129, Try.ntmps129
  go_wp2
  go_ret
  exact ⟨rfl, rfl⟩
theorem store64 (a : Addr) (x : Value) (y : Int) (w : World) (hc : w.cell? a = some x) (hz : w.frozen? a = false) : Calls Try.prog 92 #[.pointer (some a), .int .i64 y] w fun e w' => e = .returned (.tuple #[]) ∧ w.setCell a (.int .i64 y) = w' := by
  have hst := run_call_store (P := Try.prog) Try.func151 (by kernel_rfl) (by kernel_rfl) (by kernel_rfl) (by kernel_rfl) (k := .i64) (y := y) hc hz
  go_enter Try.func92, Try.ntmps92
  go_wp2
  go_end0
  exact ⟨rfl, rfl⟩
theorem add64 (a : Addr) (x y : Int) (w : World) (hy : x + 1 = y) (hx : 0 ≤ x ∧ x ≤ 1000000) (hc : w.cell? a = some (.int .i64 x)) (hz : w.frozen? a = false) : Calls Try.prog 90 #[.pointer (some a), .int .i64 1] w fun e w' => e = .returned (.int .i64 y) ∧ w.setCell a (.int .i64 y) = w' := by
  have hadd := run_call_add (P := Try.prog) Try.func148 (by kernel_rfl) (by kernel_rfl) (by kernel_rfl) .i64 (by kernel_rfl) (y := 1) (s := y) hc hz (by rw [← hy]; simp [go_sem]; rw [IntKind.wrap_i64]; omega)
  go_enter Try.func90, Try.ntmps90
  go_wp2
  go_ret
  exact ⟨rfl, rfl⟩
theorem lit_version (g : Nat) (w : World) : Calls Try.prog 94 #[.pointer (some ⟨g, 0, none⟩)] w fun e w' => e = .returned (.pointer (some ⟨g, 4, none⟩)) ∧ w = w' := by
  go_enter Try.func94, Try.ntmps94
  go_wp2
  go_ret
  exact ⟨rfl, rfl⟩
theorem lit_taken (g : Nat) (w : World) : Calls Try.prog 95 #[.pointer (some ⟨g, 0, none⟩)] w fun e w' => e = .returned (.pointer (some ⟨g, 5, none⟩)) ∧ w = w' := by
  go_enter Try.func95, Try.ntmps95
  go_wp2
  go_ret
  exact ⟨rfl, rfl⟩
theorem lit_refused (g : Nat) (w : World) : Calls Try.prog 96 #[.pointer (some ⟨g, 0, none⟩)] w fun e w' => e = .returned (.pointer (some ⟨g, 6, none⟩)) ∧ w = w' := by
  go_enter Try.func96, Try.ntmps96
  go_wp2
  go_ret
  exact ⟨rfl, rfl⟩
theorem count_any (F g o : Nat) (x : Int) (w : World) (eg : ∀ args w, (callFunc F args).run Try.prog w = .ok (.enter F args) w) (hF : ∀ w, Calls Try.prog F #[.pointer (some ⟨g, 0, none⟩)] w fun e w' => e = .returned (.pointer (some ⟨g, o, none⟩)) ∧ w = w') (hc : w.cell? ⟨g, o, none⟩ = some (.int .i64 x)) :
    Calls Try.prog 93 #[.pointer (some ⟨g, 0, none⟩), .func (.func F) #[] #[]] w fun e w' => e = .returned (.int .i64 x) ∧ w = w' := by
  have HF := hid hF
  have HC := hid hc
  clear hF
  go_enter Try.func93, Try.ntmps93
  go_wp2_with fail
  refine (HF.out _).mono ?_
  rintro e w' ⟨rfl, rfl⟩
  have HL := hid (load64 _ _ w HC.out)
  go_wp2_with fail
  refine HL.out.mono ?_
  rintro e w' ⟨rfl, rfl⟩
  go_wp2_with fail
  go_ret
  exact ⟨rfl, rfl⟩
theorem version_any (g : Nat) (x : Int) (w : World) (hc : w.cell? ⟨g, 4, none⟩ = some (.int .i64 x)) : Calls Try.prog 38 #[.pointer (some ⟨g, 0, none⟩)] w fun e w' => e = .returned (.int .i64 x) ∧ w = w' := by
  have HC := hid (count_any 94 g 4 x w (enters_of Try.func94 (by kernel_rfl) rfl) (lit_version g) hc)
  go_enter Try.func38, Try.ntmps38
  go_wp2_with fail
  refine HC.out.mono ?_
  rintro e w' ⟨rfl, rfl⟩
  go_wp2_with fail
  go_ret
  exact ⟨rfl, rfl⟩
theorem taken_any (g : Nat) (x : Int) (w : World) (hc : w.cell? ⟨g, 5, none⟩ = some (.int .i64 x)) : Calls Try.prog 39 #[.pointer (some ⟨g, 0, none⟩)] w fun e w' => e = .returned (.int .i64 x) ∧ w = w' := by
  have HC := hid (count_any 95 g 5 x w (enters_of Try.func95 (by kernel_rfl) rfl) (lit_taken g) hc)
  go_enter Try.func39, Try.ntmps39
  go_wp2_with fail
  refine HC.out.mono ?_
  rintro e w' ⟨rfl, rfl⟩
  go_wp2_with fail
  go_ret
  exact ⟨rfl, rfl⟩
theorem refused_any (g : Nat) (x : Int) (w : World) (hc : w.cell? ⟨g, 6, none⟩ = some (.int .i64 x)) : Calls Try.prog 40 #[.pointer (some ⟨g, 0, none⟩)] w fun e w' => e = .returned (.int .i64 x) ∧ w = w' := by
  have HC := hid (count_any 96 g 6 x w (enters_of Try.func96 (by kernel_rfl) rfl) (lit_refused g) hc)
  go_enter Try.func40, Try.ntmps40
  go_wp2_with fail
  refine HC.out.mono ?_
  rintro e w' ⟨rfl, rfl⟩
  go_wp2_with fail
  go_ret
  exact ⟨rfl, rfl⟩
theorem elemS : Elem Try.prog 28 9 1 16 := Elem.mk' (z := .string ByteArray.empty) Try.underlying28 (by kernel_rfl) rfl (by decide)
theorem one_s (l : List ByteArray) : ∀ u ∈ l.flatMap sEnc, u.oneCell' = true := by
  intro u hu
  obtain ⟨o, _, ho⟩ := List.mem_flatMap.1 hu
  simp only [sEnc, List.mem_cons, List.not_mem_nil, or_false] at ho
  rw [ho]; rfl
set_option maxRecDepth 100000 in
theorem sclone_any {p : Nat → Prop} (v : Value) (l : List ByteArray) (W : World) (h : RowsOf p sEnc 1 W v l) (hp : ∀ b, p b → b < W.heap.size) (hl : l.length ≤ 1000000) :
    Calls Try.prog 88 #[v] W fun e w' => ∃ a cap, e = .returned (.slice a l.length cap) ∧ Below W.heap.size W w' ∧ Hid (w'.ownsRow W.heap.size 9 1 (.slice a l.length cap) l.length (l.flatMap sEnc)) := by
  have qnil : ∀ (w : World) (a : Option Addr) (n c : Nat), (binOp .eql 28 (.slice a n c) (.slice none 0 0)).run Try.prog w = .ok (.bool a.isNone) w := fun w a n c => Lib.run_eql_slice_nil w 28 9 a n c 0 0 Try.underlying28
  have HV := hid h
  have HP := hid hp
  obtain ⟨a, cap, rfl, hlc, hcm, hnn, _⟩ := h
  clear hp
  cases a with
  | none =>
    have hc0 := hnn rfl
    subst hc0
    have hl0 : l.length = 0 := by omega
    have hln : l = [] := List.length_eq_zero_iff.1 hl0
    subst hln
    go_enter Try.func88, Try.ntmps88
    go_wp2_with fail
    go_ret
    exact ⟨none, 0, rfl, Below.refl _ _, World.ownsRow_nil _ _ _ _⟩
  | some ad =>
    have HC : Hid (Cellz p 1 (W.alloc (.cells #[] 9)) (.slice (some ad) l.length cap) l.length (l.flatMap sEnc)) := (HV.out.below (B := W.heap.size) ((Below.refl _ W).alloc (Nat.le_refl _) _) HP.out).cellz sEnc_length
    go_enter Try.func88, Try.ntmps88
    go_wp2_with (at_builtin; refine wpList_pushCells elemS rfl _ _ rfl W.heap.size _ 0 [] rfl (World.ownsRow_made W #[] 0 (Nat.le_refl _) (Nat.zero_le _) (by simp)) rfl HC.out (one_s l) ?_ ?_ ?_ ?_)
    · unfold maxLen; omega
    · omega
    · simp
    intro v1 w1 hown hb
    have HB : Hid (Below W.heap.size W w1) := ((Below.refl _ W).alloc (Nat.le_refl _) _).trans hb
    have hown2 : w1.ownsRow W.heap.size 9 1 v1 l.length (l.flatMap sEnc) := by simpa using hown
    have hr : RowsOf (fun b => W.heap.size ≤ b ∧ b < w1.heap.size) sEnc 1 w1 v1 l := RowsOf.of_owns sEnc_length hown2
    have HR := hid hown2
    clear hown2
    obtain ⟨a1, cap1, rfl, _⟩ := hr
    clear hown hb
    go_wp2_with fail
    go_ret
    exact ⟨a1, cap1, rfl, HB.out, HR.out⟩
set_option maxRecDepth 100000 in
theorem new_any (vn : Value) (ns : List ByteArray) (W : World) (hn : RowsOf (· < W.heap.size) sEnc 1 W vn ns) (hl : ns.length ≤ 1000000) :
    Calls Try.prog 32 #[vn] W fun e w' => ∃ g v2, e = .returned (.pointer (some ⟨g, 0, none⟩)) ∧ W.heap.size ≤ g ∧ Below W.heap.size W w' ∧ Hid (Hold 138 w' g [g] v2 ns 0 [] none 0 ByteArray.empty 0 0) := by
  have HC := hid (sclone_any vn ns W hn (fun _ h => h) hl)
  obtain ⟨a, cap, rfl⟩ := hn.form
  clear hn
  go_enter Try.func32, Try.ntmps32
  go_wp2_with fail
  refine HC.out.mono ?_
  rintro e w1 ⟨a1, cap1, rfl, hb1, hown⟩
  have HB1 := hid hb1
  have hr : RowsOf (fun b => W.heap.size ≤ b ∧ b < w1.heap.size) sEnc 1 w1 (.slice a1 ns.length cap1) ns := RowsOf.of_owns sEnc_length hown.out
  have HF : Hid (Hold 138 (w1.alloc (.cells #[.slice a1 ns.length cap1, .int .i64 0, .slice none 0 0, .string ByteArray.empty, .int .i64 0, .int .i64 0, .int .i64 0] 138)) w1.heap.size [w1.heap.size] (.slice a1 ns.length cap1) ns 0 [] none 0 ByteArray.empty 0 0) := by
    have hx : Below w1.heap.size w1 (w1.alloc (.cells #[.slice a1 ns.length cap1, .int .i64 0, .slice none 0 0, .string ByteArray.empty, .int .i64 0, .int .i64 0, .int .i64 0] 138)) := (Below.refl _ _).alloc (Nat.le_refl _) _
    exact ⟨by simp, by simp, Blk.new _ _ _, (hr.below hx (fun b hb => hb.2)).imp (fun b hb => ⟨Nat.lt_of_lt_of_le hb.2 hx.size, by simp; omega⟩), ⟨⟨RowsOf.nil _ _ _ _, by decide, by simp, by decide⟩, RowsOf.nil _ _ _ _, by simp⟩⟩
  have HBX : Hid (Below W.heap.size W (w1.alloc (.cells #[.slice a1 ns.length cap1, .int .i64 0, .slice none 0 0, .string ByteArray.empty, .int .i64 0, .int .i64 0, .int .i64 0] 138))) := hid (HB1.out.alloc HB1.out.size _)
  have hsz := hb1.size
  clear hb1 hown hr
  go_wp2_with fail
  go_ret
  exact ⟨w1.heap.size, _, rfl, hsz, HBX.out, HF⟩
end C17
end Go.Proofs.Ytmmmaldpalhjeaa
namespace Go.Proofs.Ytmmmaldpalhjeaa
open Go.RowKit Go.Peri
namespace C17
open C12 (wp_gen pclone_any rlclone_any)
/-- A table copied: rows of its own. -/
def CopyQ (n : Int) (l : List Rl) (f : ByteArray) (W : World) (v : Value) (w' : World) : Prop :=
  ∃ (l1 : List Rl) (a : Option Addr) (cap : Nat), v = .agg #[.int .i64 n, .slice a l1.length cap, .string f] ∧ Below W.heap.size W w' ∧ l1.map Rl.core = l.map Rl.core ∧ RowsOf (fun b => W.heap.size ≤ b ∧ b < w'.heap.size) Rl.enc 10 w' (.slice a l1.length cap) l1 ∧ ∀ x ∈ l1, x.At (fun b => W.heap.size ≤ b ∧ b < w'.heap.size) w'
theorem copyQ_tabN {l l1 : List Rl} {f : ByteArray} {W w' : World} {a : Option Addr} {cap : Nat} {S : List Nat} (hw : ∀ r ∈ l, r.Wf W W.heap.size) (hl : l.length ≤ 1000000) (hf : f.size ≤ 140737488351232) (hg : ∀ k, k ∈ S → k < W.heap.size) (hc : l1.map Rl.core = l.map Rl.core) (hr : RowsOf (fun b => W.heap.size ≤ b ∧ b < w'.heap.size) Rl.enc 10 w' (.slice a l1.length cap) l1) (ha : ∀ x ∈ l1, x.At (fun b => W.heap.size ≤ b ∧ b < w'.heap.size) w') : TabN w' S l1 a cap f := by
  have hlen : l1.length = l.length := by
    have := congrArg List.length hc
    rwa [List.length_map, List.length_map] at this
  refine ⟨⟨hr.imp (fun b hb => hb.2), by rw [hlen]; omega, fun x hx => ?_, hf⟩, hr.imp (fun b hb => ⟨hb.2, fun h => by have := hg b h; omega⟩), fun x hx => (ha x hx).imp (fun b hb => ⟨hb.2, fun h => by have := hg b h; omega⟩)⟩
  have hm : x.core ∈ l.map Rl.core := by rw [← hc]; exact List.mem_map_of_mem hx
  obtain ⟨y, hy, hyx⟩ := List.mem_map.1 hm
  exact (hw y hy).of_core hyx.symm ((ha x hx).imp (fun b hb => hb.2))
set_option maxRecDepth 100000 in
set_option maxHeartbeats 4000000 in
theorem copied_any (n : Int) (l : List Rl) (a : Option Addr) (cap : Nat) (f : ByteArray) (W : World) (h : RowsOf (· < W.heap.size) Rl.enc 10 W (.slice a l.length cap) l) (hl : l.length ≤ 1000000) (ha : ∀ x ∈ l, x.At (· < W.heap.size) W) (hps : ∀ x ∈ l, x.preds.length ≤ 1000000) :
    Calls Try.prog 91 #[.agg #[.int .i64 n, .slice a l.length cap, .string f]] W (Ret (CopyQ n l f W)) := by
  have HC := hid (fun w' (hb : Below W.heap.size W w') => rlclone_any (p := (· < W.heap.size)) (.slice a l.length cap) l w' (h.below hb (fun _ h => h)) (fun b hb2 => Nat.lt_of_lt_of_le hb2 hb.size) hl)
  have HA := hid ha
  have HPS := hid hps
  clear h ha hps
  go_enter Try.func91, Try.ntmps91
  go_upto_region 1 with fail
  refine wp_gen ?_
  intro w0 hw0
  have hb0 : Below W.heap.size W w0 := by rw [hw0]; go_grown
  have hk0 : Blk w0 W.heap.size #[.int .i64 n, .slice a l.length cap, .string f] 46 := by rw [hw0]; exact (Blk.new _ _ _).alloc _
  have hj0 : Blk w0 (W.heap.size + 1) #[.int .i64 0, .slice none 0 0, .string ByteArray.empty] 46 := by rw [hw0]; exact Blk.new' _ _ _ (by simp)
  have hs0 : w0.heap.size = W.heap.size + 2 := by rw [hw0]; simp
  clear hw0
  have HB0 := hid hb0
  have HK0 := hid hk0
  have HJ0 := hid hj0
  have c1 : w0.cell? ⟨W.heap.size, 1, none⟩ = some (.slice a l.length cap) := hk0.cell 1
  clear hb0 hk0 hj0
  go_wp2_with fail
  refine (HC.out _ HB0.out).mono ?_
  rintro e w1 ⟨a1, cap1, rfl, hb1, hown⟩
  have HB1 := hid (HB0.out.trans (hb1.mono HB0.out.size))
  have hk1 := HK0.out.later hb1
  have hj1 := HJ0.out.later hb1
  have HO := hid hown.out
  have d1 : w1.cell? ⟨W.heap.size, 1, none⟩ = some (.slice a l.length cap) := hk1.cell 1
  have f1 := hk1.free 1
  have hlk := hk1.lt
  have HK1 := hid hk1
  have HJ1 := hid hj1
  have hs1 := hb1.size
  clear hown hb1 hk1 hj1 c1 HC
  go_upto_region 2 with fail
  refine wp_gen ?_
  intro w2 hw2
  have ho2 : Only [W.heap.size] w1 w2 := by rw [hw2]; exact (Only.refl _ _).setCell (by simp) _
  have hk2 : Blk w2 W.heap.size #[.int .i64 n, .slice a1 l.length cap1, .string f] 46 := by rw [hw2]; exact HK1.out.set 1 _
  clear hw2
  have HI2 : Hid (∃ l1 : List Rl, l1.length = 0 ∧ l1.map Rl.core = (l.take 0).map Rl.core ∧ Below W.heap.size W w2 ∧ w2.ownsRow (W.heap.size + 2) 60 10 (.slice a1 l.length cap1) l.length ((l1 ++ l.drop 0).flatMap Rl.enc) ∧ (∀ x ∈ l1, x.At (fun b => W.heap.size + 2 ≤ b ∧ b < w2.heap.size ∧ b ∉ blocks (.slice a1 l.length cap1)) w2) ∧ Blk w2 W.heap.size #[.int .i64 n, .slice a1 l.length cap1, .string f] 46 ∧ Blk w2 (W.heap.size + 1) #[.int .i64 0, .slice none 0 0, .string ByteArray.empty] 46) := by
    refine ⟨[], rfl, rfl, HB1.out.trans (ho2.below HB1.out.size (fun k hk => by simp at hk; omega)), ?_, fun x hx => by simp at hx, hk2, HJ1.out.only ho2 (by simp)⟩
    have hk : Disj (blocks (.slice a1 l.length cap1)) [W.heap.size] := fun k hk => by
      have := (owns_bd HO.out k hk).1
      rw [hs0] at this
      simp
      omega
    have := owns_keep HO.out ho2 hk
    rw [hs0] at this
    simpa using this
  have e1 : w2.cell? ⟨W.heap.size, 1, none⟩ = some (.slice a1 l.length cap1) := hk2.cell 1
  clear hk2 ho2 d1 f1 HO HB1 HB0 HK0 HK1 HJ0 HJ1
  go_wp2_with fail
  go_loopw [12] (fun i wr => ∃ k : Nat, k ≤ l.length ∧ i = .int .i64 k ∧ Hid (∃ l1 : List Rl, l1.length = k ∧ l1.map Rl.core = (l.take k).map Rl.core ∧ Below W.heap.size W wr ∧ wr.ownsRow (W.heap.size + 2) 60 10 (.slice a1 l.length cap1) l.length ((l1 ++ l.drop k).flatMap Rl.enc) ∧ (∀ x ∈ l1, x.At (fun b => W.heap.size + 2 ≤ b ∧ b < wr.heap.size ∧ b ∉ blocks (.slice a1 l.length cap1)) wr) ∧ Blk wr W.heap.size #[.int .i64 n, .slice a1 l.length cap1, .string f] 46 ∧ Blk wr (W.heap.size + 1) #[.int .i64 0, .slice none 0 0, .string ByteArray.empty] 46)) (fun i _ => l.length - (intOf i).toNat)
  case atStart => exact ⟨0, Nat.zero_le _, rfl, HI2⟩
  case round =>
    obtain ⟨k, hk, rfl, hh⟩ := hrel
    obtain ⟨l1, hl1, hc1, hb, hown, hat, hkb, hjb⟩ := hh.out
    clear hh
    by_cases hk2 : k < l.length
    · obtain ⟨x, hx⟩ : ∃ x, l[k] = x := ⟨_, rfl⟩
      have hm : ∀ h : k < (l1 ++ l.drop k).length, (l1 ++ l.drop k)[k] = x := fun h => (get_mid l1 l k hl1 hk2 h).trans hx
      have hxa : x.At (· < W.heap.size) wr := (HA.out x (by rw [← hx]; exact List.getElem_mem hk2)).below hb (fun _ h => h)
      have hxl := HPS.out x (by rw [← hx]; exact List.getElem_mem hk2)
      obtain ⟨g, cap2, e2, hg1, hg2⟩ := owns_at hown (by omega)
      cases e2
      obtain ⟨cc0, cc1, cc2, cc3, cc4, cc5, cc6, cc7, cc8, cc9⟩ := Rl.cells (y := x) (w := wr) (b := g) (o := k * 10) (fun j u hj => by
        have hj2 : j < 10 := (List.getElem?_eq_some_iff.1 hj).1
        have hlen : (l1 ++ l.drop k).length = l.length := by rw [List.length_append, List.length_drop, hl1]; omega
        rw [hown.cellAt (k * 10 + j) (by omega), flat_get Rl.enc_length _ k (by omega) j hj2]
        rw [hm]
        exact hj)
      have HB := hid hb
      have HOW := hid hown
      have HAT := hid hat
      have HL1 := hid hl1
      have HC1 := hid hc1
      have HX := hid hx
      have HXA := hid hxa
      have HKB := hid hkb
      have HJB := hid hjb
      have hsW := hb.size
      clear hm
      clear hb hown hat hc1 hx hxa hkb hjb
      clear hl1
      go_upto_region 5 with fail
      refine wp_gen ?_
      intro w3 hw3
      have hbb : Below wr.heap.size wr w3 := by rw [hw3]; go_grown
      have hbx : Blk w3 wr.heap.size #[.int .i64 x.rank, .slice x.pa x.preds.length x.pcap, .string x.target, .int .i64 x.ap, .int .i64 x.as_, .int .i64 x.dp, .int .i64 x.dt, .int .i64 x.mp, .string x.mirror, .int .i64 x.sample] 60 := by rw [hw3]; exact Blk.new _ _ _
      have hs3 : wr.heap.size < w3.heap.size := by rw [hw3]; simp
      clear hw3 cc0 cc2 cc3 cc4 cc5 cc6 cc7 cc8 cc9
      have HBB := hid hbb
      have HBX := hid hbx
      have HKB3 := hid (HKB.out.later hbb)
      have HJB3 := hid (HJB.out.later hbb)
      have HCL : Hid (w3.cell? ⟨g, k * 10 + 1, none⟩ = some (.slice x.pa x.preds.length x.pcap)) := hid ((hbb.cell (p := ⟨g, k * 10 + 1, none⟩) hg2).trans cc1)
      have hglt : W.heap.size ≠ g := by omega
      have hxg : wr.heap.size ≠ g := by omega
      have HPC : Hid (∀ w', w' = w3 ∨ w' = w3.drew → Calls Try.prog 150 #[.slice x.pa x.preds.length x.pcap] w' fun e w'' => ∃ a cap, e = .returned (.slice a x.preds.length cap) ∧ Below w3.heap.size w3 w'' ∧ Hid (w''.ownsRow w3.heap.size 146 3 (.slice a x.preds.length cap) x.preds.length (x.preds.flatMap Prd.enc))) := hid (fun w' h => by
        have hh := pclone_any (p := (· < W.heap.size)) (.slice x.pa x.preds.length x.pcap) x.preds w3 (RowsOf.below HXA.out hbb (fun b hb => Nat.lt_of_lt_of_le hb HB.out.size)) (fun b hb => by have := hbb.size; omega) hxl
        have hd := pclone_any (p := (· < W.heap.size)) (.slice x.pa x.preds.length x.pcap) x.preds w3.drew (RowsOf.below (RowsOf.below HXA.out hbb (fun b hb => Nat.lt_of_lt_of_le hb HB.out.size)) (Below.refl w3.heap.size w3).drew (fun b hb => by have := hbb.size; omega)) (fun b hb => by have := hbb.size; show b < w3.heap.size; omega) hxl
        rcases h with rfl | rfl
        · exact hh
        · exact hd.mono (fun e w'' ⟨a, cap, h1, h2, h3⟩ => ⟨a, cap, h1, (Below.refl w3.heap.size w3).drew.trans h2, h3⟩))
      have KEEP : Hid (∀ w', Only [g] w3 w' → w'.cell? ⟨W.heap.size, 1, none⟩ = some (.slice (some ⟨g, 0, none⟩) l.length cap1) ∧ w'.cell? ⟨wr.heap.size, 1, none⟩ = some (.slice x.pa x.preds.length x.pcap)) := hid (fun w' ho => ⟨(HKB3.out.only ho (by simpa using hglt)).cell 1, (hbx.only ho (by simpa using hxg)).cell 1⟩)
      have i1 : (0 : Int) ≤ (k : Int) := by omega
      have i2 : (k : Int) < (l.length : Int) := by omega
      clear hbb hbx cc1
      go_wp2_with fail
      go_region_held3 (fun w' => w'.cell? ⟨W.heap.size, 1, none⟩ = some (.slice (some ⟨g, 0, none⟩) l.length cap1) ∧ w'.cell? ⟨wr.heap.size, 1, none⟩ = some (.slice x.pa x.preds.length x.pcap)) ((refine KEEP.out _ ?_; (repeat' (first | (with_reducible refine Only.setCell ?_ (by simp) _) | (with_reducible refine Only.drew ?_) | (with_reducible exact ho4) | (with_reducible exact Only.refl _ _)))))
        ((go_at_call 150; refine (HPC.out _ (by first | exact .inl rfl | exact .inr rfl)).mono ?_; rintro e w4 ⟨pa, pcap, rfl, hb4, hown4⟩; have HB4 := hid hb4; have HO4 := hid hown4.out; have ho4 : Only [g] w3 w4 := Only.of_below hb4; have hcl : w4.cell? ⟨g, k * 10 + 1, none⟩ = some (.slice x.pa x.preds.length x.pcap) := (hb4.cell (p := ⟨g, k * 10 + 1, none⟩) (by show g < w3.heap.size; omega)).trans HCL.out; have hfz : w4.frozen? ⟨g, k * 10 + 1, none⟩ = false := (C04.owns_below HOW.out (HBB.out.trans (hb4.mono HBB.out.size))).frozenAt _; have hg4 : g < w4.heap.size := Nat.lt_of_lt_of_le (show g < w3.heap.size by omega) hb4.size; clear hb4 hown4))
      all_goals
        have HR : Hid (∀ wz, Only [g] w4 wz → wz.ownsRow (W.heap.size + 2) 60 10 (.slice (some ⟨g, 0, none⟩) l.length cap1) l.length (((l1 ++ l.drop k).flatMap Rl.enc).set (k * 10 + 1) (.slice pa x.preds.length pcap)) → (∃ l1 : List Rl, l1.length = (k + 1) ∧ l1.map Rl.core = (l.take (k + 1)).map Rl.core ∧ Below W.heap.size W wz ∧ wz.ownsRow (W.heap.size + 2) 60 10 (.slice (some ⟨g, 0, none⟩) l.length cap1) l.length ((l1 ++ l.drop (k + 1)).flatMap Rl.enc) ∧ (∀ x ∈ l1, x.At (fun b => W.heap.size + 2 ≤ b ∧ b < wz.heap.size ∧ b ∉ blocks (.slice (some ⟨g, 0, none⟩) l.length cap1)) wz) ∧ Blk wz W.heap.size #[.int .i64 n, .slice (some ⟨g, 0, none⟩) l.length cap1, .string f] 46 ∧ Blk wz (W.heap.size + 1) #[.int .i64 0, .slice none 0 0, .string ByteArray.empty] 46)) := by
          intro wz hon3 hst
          have hlen : (l1 ++ l.drop k).length = l.length := by rw [List.length_append, List.length_drop, HL1.out]; omega
          have hbw : Below wr.heap.size wr w4 := HBB.out.trans (HB4.out.mono HBB.out.size)
          have hon : Only [g] wr wz := (Only.of_below hbw).trans hon3
          have hgb : ∀ b, b ∉ blocks (.slice (some ⟨g, 0, none⟩) l.length cap1) ↔ b ≠ g := fun b => by simp [blocks, Value.ownBlock]
          refine ⟨l1 ++ [{ x with pa := pa, pcap := pcap }], by simp [HL1.out], ?_, ?_, ?_, ?_, ?_, ?_⟩
          · exact map_take_snoc Rl.core l1 l k hk2 _ HC1.out (by rw [HX.out]; rfl)
          · exact HB.out.trans (hon.below HB.out.size (fun b hb => by simp at hb; omega))
          · rw [flat_set Rl.enc_length _ k (by omega) 1 _ { x with pa := pa, pcap := pcap } (by decide) (by rw [get_mid l1 l k HL1.out hk2 (by omega), HX.out]; rfl), set_mid l1 l k HL1.out hk2] at hst
            exact hst
          · intro y hy
            rcases List.mem_append.1 hy with hy | hy
            · exact ((HAT.out y hy).only hon (fun b hb => ⟨hb.2.1, by have := (hgb b).1 hb.2.2; simpa using this⟩)).imp (fun b hb => ⟨hb.1, Nat.lt_of_lt_of_le hb.2.1 hon.size, hb.2.2⟩)
            · obtain rfl : y = { x with pa := pa, pcap := pcap } := by simpa using hy
              have h0 : Rl.At (fun b => w3.heap.size ≤ b ∧ b < w4.heap.size) w4 { x with pa := pa, pcap := pcap } := RowsOf.of_owns Prd.enc_length HO4.out
              refine (h0.only hon3 (fun b hb => ⟨hb.2, by simp; omega⟩)).imp (fun b hb => ⟨by omega, Nat.lt_of_lt_of_le hb.2 hon3.size, (hgb b).2 (by omega)⟩)
          · exact HKB.out.only hon (by simpa using hglt)
          · exact HJB.out.only hon (by simp; omega)
        have HST := hid ((C04.owns_below HOW.out (HBB.out.trans (HB4.out.mono HBB.out.size))).stored (k * 10 + 1) (.slice pa x.preds.length pcap)).1
        go_wp2_with fail
        go_roundw
        case rel => exact ⟨k + 1, by omega, by go_num, hid (HR.out _ (by repeat' (first | (with_reducible refine Only.setCell ?_ (by simp) _) | (with_reducible refine Only.drew ?_) | (with_reducible exact Only.refl _ _))) HST.out)⟩
        case measure => simp [intOf]; omega
    · obtain rfl : k = l.length := by omega
      rw [List.take_length] at hc1
      rw [List.drop_length, List.append_nil] at hown
      have hlen : l1.length = l.length := hl1
      have HFIN : Hid (∀ wf, Only [W.heap.size + 1] wr wf → CopyQ n l f W (.agg #[.int .i64 n, .slice a1 l.length cap1, .string f]) wf) := hid (fun wf ho => by
        rw [← hlen] at hown ⊢
        have hr : RowsOf (fun b => W.heap.size + 2 ≤ b ∧ b < wr.heap.size) Rl.enc 10 wr (.slice a1 l1.length cap1) l1 := RowsOf.of_owns Rl.enc_length hown
        refine ⟨l1, a1, cap1, rfl, hb.trans (ho.below hb.size (fun k hk => by simp at hk; omega)), hc1, (hr.only ho (fun b hb => ⟨hb.2, by simp; omega⟩)).imp (fun b hb => ⟨by omega, Nat.lt_of_lt_of_le hb.2 ho.size⟩), fun x hx => ?_⟩
        exact ((hat x hx).only ho (fun b hb => ⟨hb.2.1, by simp; omega⟩)).imp (fun b hb => ⟨by omega, Nat.lt_of_lt_of_le hb.2.1 ho.size⟩))
      have r0 : wr.cell? ⟨W.heap.size, 0, none⟩ = some (.int .i64 n) := hkb.cell 0
      have r1 : wr.cell? ⟨W.heap.size, 1, none⟩ = some (.slice a1 l.length cap1) := hkb.cell 1
      have r2 : wr.cell? ⟨W.heap.size, 2, none⟩ = some (.string f) := hkb.cell 2
      have s0 : wr.cell? ⟨W.heap.size + 1, 0, none⟩ = some (.int .i64 0) := hjb.cell 0
      have s1 : wr.cell? ⟨W.heap.size + 1, 1, none⟩ = some (.slice none 0 0) := hjb.cell 1
      have s2 : wr.cell? ⟨W.heap.size + 1, 2, none⟩ = some (.string ByteArray.empty) := hjb.cell 2
      have t0 := hjb.free 0
      have t1 := hjb.free 1
      have t2 := hjb.free 2
      clear hl1 hc1 hb hown hat hkb hjb hlen
      go_wp2_with fail
      refine bodyPost_ret (by simp [results, Try.results91, go_sem, s0, s1, s2]; try rfl) rfl ?_
      exact ⟨_, rfl, HFIN.out _ (by repeat' (first | (with_reducible refine Only.setCell ?_ (by simp) _) | (with_reducible refine Only.drew ?_) | (with_reducible exact Only.refl _ _)))⟩
end C17
end Go.Proofs.Ytmmmaldpalhjeaa
namespace Go.Proofs.Ytmmmaldpalhjeaa
open Go.RowKit Go.Peri
namespace C17
open C12 (wp_gen)
open C14 (wholeB)
theorem copyQ_only {n : Int} {l : List Rl} {f : ByteArray} {W w1 w2 wf : World} {v : Value} {g : Nat} (h : CopyQ n l f w1 v w2) (hb : Below W.heap.size W w1) (hg : g < w1.heap.size) (hgW : W.heap.size ≤ g) (ho : Only [g] w2 wf) : CopyQ n l f W v wf := by
  obtain ⟨l1, a, cap, rfl, hb2, hc, hr, ha⟩ := h
  have h1 := hb.size
  refine ⟨l1, a, cap, rfl, hb.trans ((hb2.mono h1).trans (ho.below (Nat.le_trans h1 hb2.size) (fun k hk => by simp at hk; omega))), hc, (hr.only ho (fun b hb => ⟨hb.2, by simp; omega⟩)).imp (fun b hb => ⟨by omega, Nat.lt_of_lt_of_le hb.2 ho.size⟩), fun x hx => ((ha x hx).only ho (fun b hb => ⟨hb.2, by simp; omega⟩)).imp (fun b hb => ⟨by omega, Nat.lt_of_lt_of_le hb.2 ho.size⟩)⟩
section
variable {g : Nat} {S : List Nat} {vn : Value} {ns : List ByteArray} {n : Int} {l : List Rl} {a : Option Addr} {cap : Nat} {f : ByteArray} {tk rf : Int}
set_option maxRecDepth 100000 in
set_option maxHeartbeats 2000000 in
theorem get_any (W : World) (h : Hold 138 W g S vn ns n l a cap f tk rf) (hl : l.length ≤ 1000000) (hps : ∀ x ∈ l, x.preds.length ≤ 1000000) :
    Calls Try.prog 37 #[.pointer (some ⟨g, 0, none⟩)] W (Ret (CopyQ n l f W)) := by
  have HC := hid (fun w' (hb : Below W.heap.size W w') => copied_any n l a cap f w' ((h.tab.tab.rows.below hb (fun _ h => h)).imp (fun b h => Nat.lt_of_lt_of_le h hb.size)) hl (fun x hx => ((h.tab.tab.wf x hx).at.below hb (fun _ h => h)).imp (fun b h => Nat.lt_of_lt_of_le h hb.size)) hps)
  have HK := hid h.blk
  clear h hps
  go_enter Try.func37, Try.ntmps37
  go_upto_region 1 with fail
  refine wp_gen ?_
  intro w1 hw1
  have hb1 : Below W.heap.size W w1 := by rw [hw1]; go_grown
  have hj1 : Blk w1 W.heap.size #[.int .i64 0, .slice none 0 0, .string ByteArray.empty] 46 := by rw [hw1]; exact Blk.new _ _ _
  clear hw1
  have hk1 := HK.out.later hb1
  have c1 : w1.cell? ⟨g, 1, none⟩ = some (.int .i64 n) := hk1.cell 1
  have c2 : w1.cell? ⟨g, 2, none⟩ = some (.slice a l.length cap) := hk1.cell 2
  have c3 : w1.cell? ⟨g, 3, none⟩ = some (.string f) := hk1.cell 3
  have hg1 := hj1.lt
  have HB1 := hid hb1
  have HJ1 := hid hj1
  clear hb1 hj1 hk1
  go_wp2_with fail
  refine (HC.out _ HB1.out).mono ?_
  rintro e w2 ⟨v, rfl, hq⟩
  have HQ := hid hq
  obtain ⟨l1, a1, cap1, rfl, hb2, -⟩ := hq
  have hj2 := HJ1.out.later hb2
  have s0 : w2.cell? ⟨W.heap.size, 0, none⟩ = some (.int .i64 0) := hj2.cell 0
  have s1 : w2.cell? ⟨W.heap.size, 1, none⟩ = some (.slice none 0 0) := hj2.cell 1
  have s2 : w2.cell? ⟨W.heap.size, 2, none⟩ = some (.string ByteArray.empty) := hj2.cell 2
  have t0 := hj2.free 0
  have t1 := hj2.free 1
  have t2 := hj2.free 2
  clear hb2 hj2 c1 c2 c3 HC
  go_wp2_with fail
  refine bodyPost_ret (by simp [results, Try.results37, go_sem, s0, s1, s2]; try rfl) rfl ?_
  exact ⟨_, rfl, copyQ_only HQ.out HB1.out hg1 (Nat.le_refl _) (by repeat' (first | (with_reducible refine Only.setCell ?_ (by simp) _) | (with_reducible refine Only.drew ?_) | (with_reducible exact Only.refl _ _)))⟩
/-- Why a table is not taken. -/
def judgeE (ns : List ByteArray) (n n' : Int) (f' : ByteArray) (l' : List Rl) : Int := if wholeB n' f' l' ns = false then 2 else if n' < n then 13 else 0
set_option maxRecDepth 100000 in
set_option maxHeartbeats 2000000 in
theorem judge_any (W : World) (h : Hold 138 W g S vn ns n l a cap f tk rf) (hns : ns.length ≤ 1000000) (n' : Int) (l' : List Rl) (a' : Option Addr) (cap' : Nat) (f' : ByteArray) (E : Int) (ht : TabV W W.heap.size l' a' cap' f') (hl : l'.length ≤ 1000000) (hps : ∀ x ∈ l', x.preds.length ≤ 1000000) (hE : judgeE ns n n' f' l' = E) :
    Calls Try.prog 89 #[.pointer (some ⟨g, 0, none⟩), .agg #[.int .i64 n', .slice a' l'.length cap', .string f']] W fun e w' => e = .returned (.int .i64 E) ∧ Below W.heap.size W w' := by
  obtain ⟨q, hq⟩ : ∃ q, wholeB n' f' l' ns = q := ⟨_, rfl⟩
  unfold judgeE at hE
  rw [hq] at hE
  have HE := hid hE
  have HN := hid (fun w' (hb : Below W.heap.size W w') => (h.names.below hb (fun b hb => hb.1)).imp (fun b hb2 => Nat.lt_of_lt_of_le hb2.1 hb.size))
  obtain ⟨na, ncap, rfl⟩ := h.names.form
  have HW := hid (fun w' (hb : Below W.heap.size W w') => C14.whole_any n' l' a' cap' f' ns _ q w' (C14.TabV.at' ht hb).rows (C14.TabV.at' ht hb).wf (by omega) hps (HN.out w' hb) (by omega) ht.f hq)
  have HK := hid h.blk
  clear h hq hE ht hps HN
  go_enter Try.func89, Try.ntmps89
  go_upto_region 1 with fail
  refine wp_gen ?_
  intro w1 hw1
  have hb1 : Below W.heap.size W w1 := by rw [hw1]; go_grown
  have hj1 : Blk w1 W.heap.size #[.int .i64 n', .slice a' l'.length cap', .string f'] 46 := by rw [hw1]; exact Blk.new _ _ _
  clear hw1
  have HB1 := hid hb1
  have hk1 := HK.out.later hb1
  have c0 : w1.cell? ⟨g, 0, none⟩ = some (.slice na ns.length ncap) := hk1.cell 0
  have s0 : w1.cell? ⟨W.heap.size, 0, none⟩ = some (.int .i64 n') := hj1.cell 0
  have s1 : w1.cell? ⟨W.heap.size, 1, none⟩ = some (.slice a' l'.length cap') := hj1.cell 1
  have s2 : w1.cell? ⟨W.heap.size, 2, none⟩ = some (.string f') := hj1.cell 2
  have g0 := hk1.lt
  have g1 := hj1.lt
  have HK1 := hid hk1
  have HJ1 := hid hj1
  have X1 : Hid (∀ z : BW w1, Calls Try.prog 75 #[.agg #[.int .i64 n', .slice a' l'.length cap', .string f'], .slice na ns.length ncap] z.val fun e w' => e = .returned (.bool q) ∧ Below z.val.heap.size z.val w') := hid (fun z => HW.out z.val (HB1.out.trans (z.prop.mono HB1.out.size)))
  clear hb1 hj1 hk1 HW
  go_wp2_with fail
  refine wp_region_bw (by kernel_rfl) (by kernel_rfl) ?_
  repeat (go_big_quiet_step ((go_at_call 75; exact bw_call (X1.out _))))
  refine wpQuiet_nil ?_
  rintro w2 ⟨⟨_, hb2⟩, rfl⟩
  have HB2 := hid (HB1.out.trans (hb2.mono HB1.out.size))
  have hk2 := HK1.out.later hb2
  have hj2 := HJ1.out.later hb2
  clear hb2 c0 s0 s1 s2 g0 g1 X1
  cases q
  · obtain rfl : (2 : Int) = E := HE.out
    go_wp2_with fail
    go_ret
    exact ⟨rfl, HB2.out⟩
  have hE2 := HE.out
  rw [if_neg (by simp)] at hE2
  have s0 : w2.cell? ⟨W.heap.size, 0, none⟩ = some (.int .i64 n') := hj2.cell 0
  have c4 : w2.cell? ⟨g, 4, none⟩ = some (.int .i64 n) := hk2.cell 4
  have g0 := hk2.lt
  have g1 := hj2.lt
  have X2 : Hid (∀ z : BW w2, Calls Try.prog 129 #[.pointer (some ⟨g, 4, none⟩)] z.val fun e w' => e = .returned (.int .i64 n) ∧ z.val = w') := hid (fun z => load64 _ _ z.val ((BW.cell z g0).trans c4))
  clear hk2 hj2 c4 HE
  by_cases hlt : n' < n
  · rw [if_pos hlt] at hE2
    subst hE2
    have hd : decide (n' < n) = true := decide_eq_true hlt
    go_wp2_with fail
    refine wp_region_bw (by kernel_rfl) (by kernel_rfl) ?_
    repeat (go_big_quiet_step ((go_at_call 129; exact bw_same (X2.out _))))
    refine wpQuiet_nil ?_
    rintro w3 ⟨⟨_, hb3⟩, rfl⟩
    have HB3 := hid (HB2.out.trans (hb3.mono HB2.out.size))
    clear hb3
    go_wp2_with fail
    go_ret
    exact ⟨rfl, HB3.out⟩
  · rw [if_neg hlt] at hE2
    subst hE2
    have hd : decide (n' < n) = false := decide_eq_false hlt
    go_wp2_with fail
    refine wp_region_bw (by kernel_rfl) (by kernel_rfl) ?_
    repeat (go_big_quiet_step ((go_at_call 129; exact bw_same (X2.out _))))
    refine wpQuiet_nil ?_
    rintro w3 ⟨⟨_, hb3⟩, rfl⟩
    have HB3 := hid (HB2.out.trans (hb3.mono HB2.out.size))
    clear hb3
    go_wp2_with fail
    go_ret
    exact ⟨rfl, HB3.out⟩
end
end C17
end Go.Proofs.Ytmmmaldpalhjeaa
namespace Go.Proofs.Ytmmmaldpalhjeaa
open Go.RowKit Go.Peri
namespace C17
open C12 (wp_gen)
section
variable {g : Nat} {S : List Nat} {vn : Value} {ns : List ByteArray} {n : Int} {l : List Rl} {a : Option Addr} {cap : Nat} {f : ByteArray} {tk rf : Int}
/-- A push: the holder then. -/
def PushQ (g : Nat) (S : List Nat) (vn : Value) (ns : List ByteArray) (n : Int) (l : List Rl) (f : ByteArray) (tk rf : Int) (n' : Int) (l' : List Rl) (f' : ByteArray) (E : Int) (W w' : World) : Prop :=
  Only [g] W w' ∧ ∃ (l2 : List Rl) (a2 : Option Addr) (cap2 : Nat), l2.map Rl.core = (if E = 0 then l' else l).map Rl.core ∧ Hold 138 w' g S vn ns (if E = 0 then n' else n) l2 a2 cap2 (if E = 0 then f' else f) (if E = 0 then tk + 1 else tk) (if E = 0 then rf else rf + 1)
theorem pushQ_no {n' E : Int} {l' : List Rl} {f' : ByteArray} {W w1 w' : World} (hE : E ≠ 0) (h : Hold 138 W g S vn ns n l a cap f tk rf) (hb : Below W.heap.size W w1) (hw : w' = w1.setCell ⟨g, 6, none⟩ (.int .i64 (rf + 1))) : PushQ g S vn ns n l f tk rf n' l' f' E W w' := by
  subst hw
  have h1 := h.only0 hb
  have ho : Only [g] w1 (w1.setCell ⟨g, 6, none⟩ (.int .i64 (rf + 1))) := (Only.refl _ _).setCell (by simp) _
  have hk : Blk (w1.setCell ⟨g, 6, none⟩ (.int .i64 (rf + 1))) g #[vn, .int .i64 n, .slice a l.length cap, .string f, .int .i64 n, .int .i64 tk, .int .i64 (rf + 1)] 138 := h1.blk.set 6 _
  refine ⟨(Only.of_below hb).trans ho, l, a, cap, by rw [if_neg hE], ?_⟩
  rw [if_neg hE, if_neg hE, if_neg hE, if_neg hE]
  have hs : ∀ k, k ∈ [g] → k ∈ S := fun k hk => by simp at hk; rw [hk]; exact h.mem
  exact ⟨h.mem, fun k hk => Nat.lt_of_lt_of_le (h1.lt k hk) ho.size, hk, (h1.names.only ho (fun b hb => ⟨hb.1, fun h => hb.2 (hs b h)⟩)).imp (fun _ hb => ⟨Nat.lt_of_lt_of_le hb.1 ho.size, hb.2⟩), h1.tab.only hs ho⟩
theorem pushQ_yes {n' : Int} {l' l2 : List Rl} {a2 : Option Addr} {cap2 : Nat} {f' : ByteArray} {W w1 w' : World} (h : Hold 138 W g S vn ns n l a cap f tk rf) (hb : Below W.heap.size W w1) (ho : Only [g] w1 w') (hc : l2.map Rl.core = l'.map Rl.core) (ht : TabN w1 S l2 a2 cap2 f') (hk : Blk w' g #[vn, .int .i64 n', .slice a2 l2.length cap2, .string f', .int .i64 n', .int .i64 (tk + 1), .int .i64 rf] 138) : PushQ g S vn ns n l f tk rf n' l' f' 0 W w' := by
  have h1 := h.only0 hb
  have hs : ∀ k, k ∈ [g] → k ∈ S := fun k hk => by simp at hk; rw [hk]; exact h.mem
  exact ⟨(Only.of_below hb).trans ho, l2, a2, cap2, hc, h.mem, fun k hk => Nat.lt_of_lt_of_le (h1.lt k hk) ho.size, hk, (h1.names.only ho (fun b hb => ⟨hb.1, fun h => hb.2 (hs b h)⟩)).imp (fun _ hb => ⟨Nat.lt_of_lt_of_le hb.1 ho.size, hb.2⟩), ht.only hs ho⟩
set_option maxRecDepth 100000 in
set_option maxHeartbeats 4000000 in
theorem push_any (W : World) (h : Hold 138 W g S vn ns n l a cap f tk rf) (hns : ns.length ≤ 1000000) (htk : 0 ≤ tk ∧ tk ≤ 1000000) (hrf : 0 ≤ rf ∧ rf ≤ 1000000) (n' : Int) (l' : List Rl) (a' : Option Addr) (cap' : Nat) (f' : ByteArray) (E : Int) (ht : TabV W W.heap.size l' a' cap' f') (hl : l'.length ≤ 1000000) (hps : ∀ x ∈ l', x.preds.length ≤ 1000000) (hE : judgeE ns n n' f' l' = E) :
    Calls Try.prog 34 #[.pointer (some ⟨g, 0, none⟩), .agg #[.int .i64 n', .slice a' l'.length cap', .string f']] W fun e w' => e = .returned (.int .i64 E) ∧ PushQ g S vn ns n l f tk rf n' l' f' E W w' := by
  have HJ := hid (fun w' (hb : Below W.heap.size W w') => judge_any w' (h.only0 hb) hns n' l' a' cap' f' E (C14.TabV.at' ht hb) hl hps hE)
  have HCP := hid (fun w' (hb : Below W.heap.size W w') => copied_any n' l' a' cap' f' w' (C14.TabV.at' ht hb).rows hl (fun x hx => ((C14.TabV.at' ht hb).wf x hx).at) hps)
  have HTW := hid (fun w' (hb : Below W.heap.size W w') => (C14.TabV.at' ht hb).wf)
  have HTF := hid ht.f
  have HH := hid h
  have HLT := hid h.blk.lt
  clear h ht hps hE
  go_enter Try.func34, Try.ntmps34
  go_upto_region 1 with fail
  refine wp_gen ?_
  intro w1 hw1
  have hb1 : Below W.heap.size W w1 := by rw [hw1]; go_grown
  have hj1 : Blk w1 W.heap.size #[.int .i64 n', .slice a' l'.length cap', .string f'] 46 := by rw [hw1]; exact Blk.new _ _ _
  clear hw1
  have HB1 := hid hb1
  have HJ1 := hid hj1
  have s0 : w1.cell? ⟨W.heap.size, 0, none⟩ = some (.int .i64 n') := hj1.cell 0
  have s1 : w1.cell? ⟨W.heap.size, 1, none⟩ = some (.slice a' l'.length cap') := hj1.cell 1
  have s2 : w1.cell? ⟨W.heap.size, 2, none⟩ = some (.string f') := hj1.cell 2
  clear hb1 hj1
  go_wp2_with fail
  refine (HJ.out _ HB1.out).mono ?_
  rintro e w2 ⟨rfl, hb2⟩
  have HB2 := hid (HB1.out.trans (hb2.mono HB1.out.size))
  have hj2 := HJ1.out.later hb2
  have hk2 := (HH.out.only0 HB2.out).blk
  have HJ2 := hid hj2
  clear hb2 s0 s1 s2 HJ
  by_cases hE0 : E = 0
  rotate_left
  · have e1 : (E == 0) = false := by simpa using hE0
    have e2 : (E != 0) = true := by simpa using hE0
    have HAD := hid (add64 ⟨g, 6, none⟩ rf (rf + 1) w2 rfl hrf (hk2.cell 6) (hk2.free 6))
    have HNO := hid (fun w' hw => pushQ_no (n' := n') (l' := l') (f' := f') (w' := w') hE0 HH.out HB2.out hw)
    clear hk2 hj2 HCP HTW
    go_wp2_with fail
    refine HAD.out.mono ?_
    rintro e w3 ⟨rfl, rfl⟩
    go_wp2_with fail
    go_ret
    exact ⟨rfl, HNO.out _ rfl⟩
  subst hE0
  have s0 : w2.cell? ⟨W.heap.size, 0, none⟩ = some (.int .i64 n') := hj2.cell 0
  have s1 : w2.cell? ⟨W.heap.size, 1, none⟩ = some (.slice a' l'.length cap') := hj2.cell 1
  have s2 : w2.cell? ⟨W.heap.size, 2, none⟩ = some (.string f') := hj2.cell 2
  clear hj2 hk2
  go_wp2_with fail
  refine (HCP.out _ HB2.out).mono ?_
  rintro e w3 ⟨v, rfl, l2, a2, cap2, rfl, hb3, hc2, hr2, ha2⟩
  have HB3 := hid (HB2.out.trans (hb3.mono HB2.out.size))
  have hj3 := HJ2.out.later hb3
  have hk3 := (HH.out.only0 HB3.out).blk
  have HTN : Hid (TabN w3 S l2 a2 cap2 f') := hid (copyQ_tabN (HTW.out w2 HB2.out) hl HTF.out (fun k hk => Nat.lt_of_lt_of_le (HH.out.lt k hk) HB2.out.size) hc2 hr2 ha2)
  have HC2 := hid hc2
  have HK3 := hid hk3
  have HJ3 := hid hj3
  have c1 : w3.cell? ⟨g, 1, none⟩ = some (.int .i64 n) := hk3.cell 1
  have c2 : w3.cell? ⟨g, 2, none⟩ = some (.slice a l.length cap) := hk3.cell 2
  have c3 : w3.cell? ⟨g, 3, none⟩ = some (.string f) := hk3.cell 3
  have t1 := hk3.free 1
  have t2 := hk3.free 2
  have t3 := hk3.free 3
  have hgj : g ≠ W.heap.size := by have := HLT.out; omega
  clear hb3 hj3 hk3 hr2 ha2 hc2 s0 s1 s2 HCP HTW
  go_upto_region 8 with fail
  refine wp_gen ?_
  intro w4 hw4
  have ho4 : Only [g] w3 w4 := by rw [hw4]; exact (((Only.refl _ _).setCell (by simp) _).setCell (by simp) _).setCell (by simp) _
  have hk4 : Blk w4 g #[vn, .int .i64 n', .slice a2 l2.length cap2, .string f', .int .i64 n, .int .i64 tk, .int .i64 rf] 138 := by rw [hw4]; exact ((HK3.out.set 1 _).set 2 _).set 3 _
  clear hw4
  have hj4 := HJ3.out.only ho4 (by simpa using hgj.symm)
  have HO4 := hid ho4
  have HK4 := hid hk4
  have j0 : w4.cell? ⟨W.heap.size, 0, none⟩ = some (.int .i64 n') := hj4.cell 0
  have HST : Hid (∀ w', w' = w4 ∨ w' = w4.drew → Calls Try.prog 92 #[.pointer (some ⟨g, 4, none⟩), .int .i64 n'] w' fun e w'' => e = .returned (.tuple #[]) ∧ w'.setCell ⟨g, 4, none⟩ (.int .i64 n') = w'') := hid (fun w' h => by
    rcases h with h | h <;> rw [h]
    · exact store64 _ _ _ w4 (HK4.out.cell 4) (HK4.out.free 4)
    · exact store64 _ _ _ w4.drew (HK4.out.drew.cell 4) (HK4.out.drew.free 4))
  have hjl := hj4.lt
  have hgl := hk4.lt
  clear ho4 hk4 c1 c2 c3 t1 t2 t3
  have HJ4 := hid hj4
  clear hj4
  have KEEP : Hid (∀ w', Only [g] w4 w' → w'.cell? ⟨W.heap.size, 0, none⟩ = some (.int .i64 n')) := hid (fun w' ho => (HJ4.out.only ho (by simpa using hgj.symm)).cell 0)
  go_wp2_with fail
  go_region_held3 (fun w' => w'.cell? ⟨W.heap.size, 0, none⟩ = some (.int .i64 n')) ((refine KEEP.out _ ?_; (repeat' (first | (with_reducible refine Only.setCell ?_ (by simp) _) | (with_reducible refine Only.drew ?_) | (with_reducible exact Only.refl _ _)))))
    ((go_at_call 92; refine (HST.out _ (by first | exact .inl rfl | exact .inr rfl)).mono ?_; rintro e w' ⟨rfl, rfl⟩))
  all_goals
    go_upto_region 9 with fail
    refine wp_gen ?_
    intro w5 hw5
    have ho5 : Only [g] w4 w5 := by rw [hw5]; (repeat' (first | (with_reducible refine Only.setCell ?_ (by simp) _) | (with_reducible refine Only.drew ?_) | (with_reducible exact Only.refl _ _)))
    have hk5 : Blk w5 g #[vn, .int .i64 n', .slice a2 l2.length cap2, .string f', .int .i64 n', .int .i64 tk, .int .i64 rf] 138 := by rw [hw5]; exact HK4.out.set 4 _
    clear hw5
    have HAD := hid (add64 ⟨g, 5, none⟩ tk (tk + 1) w5 rfl htk (hk5.cell 5) (hk5.free 5))
    have HK5 := hid hk5
    have HO5 := hid (HO4.out.trans ho5)
    clear ho5 hk5
    go_wp2_with fail
    refine HAD.out.mono ?_
    rintro e w6 ⟨rfl, rfl⟩
    go_wp2_with fail
    go_ret
    exact ⟨rfl, pushQ_yes HH.out HB3.out (HO5.out.trans ((Only.refl _ _).setCell (by simp) _)) HC2.out HTN.out (HK5.out.set 5 _)⟩
end
end C17
end Go.Proofs.Ytmmmaldpalhjeaa
namespace Go.Proofs.Ytmmmaldpalhjeaa
open Go.RowKit Go.Peri
namespace C17
open C12 (wp_gen)
open C14 (wholeB)
set_option maxRecDepth 100000 in
set_option maxHeartbeats 4000000 in
theorem rpush_any (W : World) (vn : Value) (ns : List ByteArray) (n : Int) (l : List Rl) (a : Option Addr) (cap : Nat) (f : ByteArray) (tk rf : Int) (hn : RowsOf (· < W.heap.size) sEnc 1 W vn ns) (hns : ns.length ≤ 1000000) (htk : 0 ≤ tk ∧ tk ≤ 1000000) (hrf : 0 ≤ rf ∧ rf ≤ 1000000) (n' : Int) (l' : List Rl) (a' : Option Addr) (cap' : Nat) (f' : ByteArray) (E : Int) (ht : TabV W W.heap.size l' a' cap' f') (hl : l'.length ≤ 1000000) (hps : ∀ x ∈ l', x.preds.length ≤ 1000000) (hE : judgeE ns n n' f' l' = E) :
    Calls Try.prog 35 #[.agg #[vn, .int .i64 n, .slice a l.length cap, .string f, .int .i64 tk, .int .i64 rf], .agg #[.int .i64 n', .slice a' l'.length cap', .string f']] W fun e w' => e = .returned (.tuple #[.agg #[vn, .int .i64 (if E = 0 then n' else n), .slice (if E = 0 then a' else a) (if E = 0 then l'.length else l.length) (if E = 0 then cap' else cap), .string (if E = 0 then f' else f), .int .i64 (if E = 0 then tk + 1 else tk), .int .i64 (if E = 0 then rf else rf + 1)], .int .i64 E]) ∧ Below W.heap.size W w' := by
  obtain ⟨q, hq⟩ : ∃ q, wholeB n' f' l' ns = q := ⟨_, rfl⟩
  unfold judgeE at hE
  rw [hq] at hE
  have HE := hid hE
  have HW := hid (fun w' (hb : Below W.heap.size W w') => C14.rwhole_any n' l' a' cap' f' ns vn q w' (C14.TabV.at' ht hb) (by omega) hps ((hn.below hb (fun _ h => h)).imp (fun b h => Nat.lt_of_lt_of_le h hb.size)) (by omega) hq)
  obtain ⟨na, ncap, rfl⟩ := hn.form
  clear hn hq hE ht hps
  go_enter Try.func35, Try.ntmps35
  go_upto_region 1 with fail
  refine wp_gen ?_
  intro w1 hw1
  have hb1 : Below W.heap.size W w1 := by rw [hw1]; go_grown
  have hi1 : Blk w1 W.heap.size #[.slice na ns.length ncap, .int .i64 n, .slice a l.length cap, .string f, .int .i64 tk, .int .i64 rf] 48 := by rw [hw1]; exact ((Blk.new _ _ _).alloc _).alloc _
  have hj1 : Blk w1 (W.heap.size + 1) #[.int .i64 n', .slice a' l'.length cap', .string f'] 46 := by rw [hw1]; exact (Blk.new' _ _ _ (by simp)).alloc _
  have hk1 : Blk w1 (W.heap.size + 2) #[.slice none 0 0, .int .i64 0, .slice none 0 0, .string ByteArray.empty, .int .i64 0, .int .i64 0] 48 := by rw [hw1]; exact Blk.new' _ _ _ (by simp)
  clear hw1
  have HB1 := hid hb1
  have HI1 := hid hi1
  have HJ1 := hid hj1
  have HK1 := hid hk1
  have c0 : w1.cell? ⟨W.heap.size, 0, none⟩ = some (.slice na ns.length ncap) := hi1.cell 0
  have s0 : w1.cell? ⟨W.heap.size + 1, 0, none⟩ = some (.int .i64 n') := hj1.cell 0
  have s1 : w1.cell? ⟨W.heap.size + 1, 1, none⟩ = some (.slice a' l'.length cap') := hj1.cell 1
  have s2 : w1.cell? ⟨W.heap.size + 1, 2, none⟩ = some (.string f') := hj1.cell 2
  clear hb1 hi1 hj1 hk1
  go_wp2_with fail
  refine (HW.out _ HB1.out).mono ?_
  rintro e w2 ⟨rfl, hb2⟩
  have HB2 := hid (HB1.out.trans (hb2.mono HB1.out.size))
  have HI2 := hid (HI1.out.later hb2)
  have HJ2 := hid (HJ1.out.later hb2)
  have HK2 := hid (HK1.out.later hb2)
  clear hb2 c0 s0 s1 s2
  have c0 : w2.cell? ⟨W.heap.size, 0, none⟩ = some (.slice na ns.length ncap) := HI2.out.cell 0
  have c1 : w2.cell? ⟨W.heap.size, 1, none⟩ = some (.int .i64 n) := HI2.out.cell 1
  have c2 : w2.cell? ⟨W.heap.size, 2, none⟩ = some (.slice a l.length cap) := HI2.out.cell 2
  have c3 : w2.cell? ⟨W.heap.size, 3, none⟩ = some (.string f) := HI2.out.cell 3
  have c4 : w2.cell? ⟨W.heap.size, 4, none⟩ = some (.int .i64 tk) := HI2.out.cell 4
  have c5 : w2.cell? ⟨W.heap.size, 5, none⟩ = some (.int .i64 rf) := HI2.out.cell 5
  have s0 : w2.cell? ⟨W.heap.size + 1, 0, none⟩ = some (.int .i64 n') := HJ2.out.cell 0
  have s1 : w2.cell? ⟨W.heap.size + 1, 1, none⟩ = some (.slice a' l'.length cap') := HJ2.out.cell 1
  have s2 : w2.cell? ⟨W.heap.size + 1, 2, none⟩ = some (.string f') := HJ2.out.cell 2
  have z0 : w2.cell? ⟨W.heap.size + 2, 0, none⟩ = some (.slice none 0 0) := HK2.out.cell 0
  have z1 : w2.cell? ⟨W.heap.size + 2, 1, none⟩ = some (.int .i64 0) := HK2.out.cell 1
  have z2 : w2.cell? ⟨W.heap.size + 2, 2, none⟩ = some (.slice none 0 0) := HK2.out.cell 2
  have z3 : w2.cell? ⟨W.heap.size + 2, 3, none⟩ = some (.string ByteArray.empty) := HK2.out.cell 3
  have z4 : w2.cell? ⟨W.heap.size + 2, 4, none⟩ = some (.int .i64 0) := HK2.out.cell 4
  have z5 : w2.cell? ⟨W.heap.size + 2, 5, none⟩ = some (.int .i64 0) := HK2.out.cell 5
  have u0 := HI2.out.free 0
  have u1 := HI2.out.free 1
  have u2 := HI2.out.free 2
  have u3 := HI2.out.free 3
  have u4 := HI2.out.free 4
  have u5 := HI2.out.free 5
  have v0 := HK2.out.free 0
  have v1 := HK2.out.free 1
  have v2 := HK2.out.free 2
  have v3 := HK2.out.free 3
  have v4 := HK2.out.free 4
  have v5 := HK2.out.free 5
  have g0 := HI2.out.lt
  have g1 := HJ2.out.lt
  have g2 := HK2.out.lt
  have hwt : IntKind.i64.wrap (tk + 1) = tk + 1 := by rw [IntKind.wrap_i64]; omega
  have hwr : IntKind.i64.wrap (rf + 1) = rf + 1 := by rw [IntKind.wrap_i64]; omega
  have FIN : Hid (∀ wf, Only [W.heap.size, W.heap.size + 2] w2 wf → Below W.heap.size W wf) := hid (fun wf ho => HB2.out.trans (ho.below HB2.out.size (fun k hk => by simp at hk; omega)))
  cases q
  · obtain rfl : (2 : Int) = E := HE.out
    go_wp2_with fail
    refine bodyPost_ret (by simp [results, Try.results35, go_sem, z0, z1, z2, z3, z4, z5]; try rfl) rfl ?_
    exact ⟨by simp, FIN.out _ (by repeat' (first | (with_reducible refine Only.setCell ?_ (by simp) _) | (with_reducible refine Only.drew ?_) | (with_reducible exact Only.refl _ _)))⟩
  have hE2 := HE.out
  rw [if_neg (by simp)] at hE2
  clear HE
  by_cases hlt : n' < n
  · rw [if_pos hlt] at hE2
    subst hE2
    go_wp2_with fail
    refine bodyPost_ret (by simp [results, Try.results35, go_sem, z0, z1, z2, z3, z4, z5]; try rfl) rfl ?_
    exact ⟨by simp, FIN.out _ (by repeat' (first | (with_reducible refine Only.setCell ?_ (by simp) _) | (with_reducible refine Only.drew ?_) | (with_reducible exact Only.refl _ _)))⟩
  · rw [if_neg hlt] at hE2
    subst hE2
    go_wp2_with fail
    refine bodyPost_ret (by simp [results, Try.results35, go_sem, z0, z1, z2, z3, z4, z5]; try rfl) rfl ?_
    exact ⟨by simp, FIN.out _ (by repeat' (first | (with_reducible refine Only.setCell ?_ (by simp) _) | (with_reducible refine Only.drew ?_) | (with_reducible exact Only.refl _ _)))⟩
end C17
end Go.Proofs.Ytmmmaldpalhjeaa
namespace Go.Peri
open Go.RowKit
/-- A table as it stands in a list. -/
structure Tb where
  n : Int
  a : Option Addr
  cap : Nat
  l : List Rl
  f : ByteArray
namespace Tb
def enc (t : Tb) : List Value := [.int .i64 t.n, .slice t.a t.l.length t.cap, .string t.f]
theorem enc_length (t : Tb) : t.enc.length = 3 := rfl
def Wf (w : World) (B : Nat) (t : Tb) : Prop := TabV w B t.l t.a t.cap t.f
theorem of_rd {w : World} {B : Nat} {cs : List Value} (h : Rd w B tabTy cs) : ∃ t : Tb, cs = t.enc ∧ Wf w B t := by
  obtain ⟨_, _, e, _, a0, h⟩ := h
  obtain ⟨c1, _, rfl, hl1, a1, h⟩ := h
  obtain ⟨_, _, rfl, _, a2, h⟩ := h
  obtain ⟨n, rfl, _⟩ := Sp.rd_i64 a0
  obtain ⟨f, rfl, g2⟩ := Hd.rd_str a2
  have e1 : (_ : List Value) = [] := h
  subst e1
  obtain ⟨v1, rfl⟩ : ∃ v, c1 = [v] := by
    match c1, hl1 with
    | [v], _ => exact ⟨v, rfl⟩
  obtain ⟨l, k1, k2, k3⟩ := rules_of_arg (v := v1) a1
  obtain ⟨a, cap, rfl⟩ : ∃ a cap, v1 = .slice a l.length cap := by
    obtain ⟨a, cap, e, _⟩ := k1
    exact ⟨a, cap, e⟩
  exact ⟨⟨n, a, cap, l, f⟩, e, ⟨k1, k2, k3, g2⟩⟩
theorem cells {y : Tb} {w : World} {b o : Nat} (h : ∀ j u, y.enc[j]? = some u → w.cell? ⟨b, o + j, none⟩ = some u) :
    w.cell? ⟨b, o, none⟩ = some (.int .i64 y.n) ∧ w.cell? ⟨b, o + 1, none⟩ = some (.slice y.a y.l.length y.cap) ∧ w.cell? ⟨b, o + 2, none⟩ = some (.string y.f) := ⟨h 0 _ rfl, h 1 _ rfl, h 2 _ rfl⟩
end Tb
theorem tabs_of_arg {w : World} {B : Nat} {v : Value} (h : Arg w B (.slice 48 tabTy) v) : ∃ l : List Tb, RowsOf (· < B) Tb.enc 3 w v l ∧ l.length * 48 ≤ 140737488351232 ∧ (∀ x ∈ l, x.Wf w B) := by
  obtain ⟨l, h1, h2, h3⟩ := rows_of_arg (enc := Tb.enc) (wf := Tb.Wf w B) (e := tabTy) (fun _ => rfl) (fun cs hc => Tb.of_rd hc) h
  exact ⟨l, h1, h2, h3⟩
end Go.Peri
namespace Go.Proofs.Ytmmmaldpalhjeaa
open Go.RowKit Go.Peri
namespace C17
open C12 (wp_gen sameB)
/-- Two tables that are alike but for where their rules lie. -/
theorem same_core (n : Int) (l k : List Rl) (a b : Option Addr) (cap capb : Nat) (f : ByteArray) (W : World) (ht : TabV W W.heap.size l a cap f) (ht2 : TabV W W.heap.size k b capb f) (hk : l.length ≤ 1000000) (hps : ∀ x ∈ l, x.preds.length ≤ 1000000) (hc : l.map Rl.core = k.map Rl.core) :
    Calls Try.prog 36 #[.agg #[.int .i64 n, .slice a l.length cap, .string f], .agg #[.int .i64 n, .slice b k.length capb, .string f]] W fun e w' => e = .returned (.bool true) ∧ Below W.heap.size W w' := by
  have hlen : k.length = l.length := by
    have := congrArg List.length hc
    simpa using this.symm
  exact C14.tsame_any n n l k a b cap capb f f true W ht ht2 (fun x hx => Nat.le_trans (hps x hx) (by decide)) (fun x hx => Nat.le_trans (C14.psl_core hc.symm hps x hx) (by decide)) (by omega) (by omega) (by rw [(C12.sameB_core l k).2 hc]; simp)
theorem tabV_of_copy {n : Int} {l l1 : List Rl} {f : ByteArray} {W w' : World} {a : Option Addr} {cap : Nat} (hw : ∀ r ∈ l, r.Wf W W.heap.size) (hl : l.length ≤ 1000000) (hf : f.size ≤ 140737488351232) (hc : l1.map Rl.core = l.map Rl.core) (hr : RowsOf (fun b => W.heap.size ≤ b ∧ b < w'.heap.size) Rl.enc 10 w' (.slice a l1.length cap) l1) (ha : ∀ x ∈ l1, x.At (fun b => W.heap.size ≤ b ∧ b < w'.heap.size) w') (_ : n = n) : TabV w' w'.heap.size l1 a cap f := by
  have hlen : l1.length = l.length := by
    have := congrArg List.length hc
    rwa [List.length_map, List.length_map] at this
  refine ⟨hr.imp (fun b hb => hb.2), by rw [hlen]; omega, fun x hx => ?_, hf⟩
  have hm : x.core ∈ l.map Rl.core := by rw [← hc]; exact List.mem_map_of_mem hx
  obtain ⟨y, hy, hyx⟩ := List.mem_map.1 hm
  exact (hw y hy).of_core hyx.symm ((ha x hx).imp (fun b hb => hb.2))
/-- A copy, with what is known of it. -/
def GetQ (n : Int) (l : List Rl) (f : ByteArray) (W : World) (v : Value) (w' : World) : Prop :=
  ∃ (l1 : List Rl) (a : Option Addr) (cap : Nat), v = .agg #[.int .i64 n, .slice a l1.length cap, .string f] ∧ Below W.heap.size W w' ∧ l1.map Rl.core = l.map Rl.core ∧ TabV w' w'.heap.size l1 a cap f
theorem getq_any {g : Nat} {S : List Nat} {vn : Value} {ns : List ByteArray} {n : Int} {l : List Rl} {a : Option Addr} {cap : Nat} {f : ByteArray} {tk rf : Int} (W : World) (h : Hold 138 W g S vn ns n l a cap f tk rf) (hl : l.length ≤ 1000000) (hps : ∀ x ∈ l, x.preds.length ≤ 1000000) :
    Calls Try.prog 37 #[.pointer (some ⟨g, 0, none⟩)] W (Ret (GetQ n l f W)) :=
  (get_any W h hl hps).mono fun _ _ ⟨v, he, l1, a1, cap1, hv, hb, hc, hr, ha⟩ => ⟨v, he, l1, a1, cap1, hv, hb, hc, tabV_of_copy (n := n) h.tab.tab.wf hl h.tab.tab.f hc hr ha rfl⟩
/-- The same, seen from a world further back. -/
def GetQ0 (n : Int) (l : List Rl) (f : ByteArray) (W : World) (v : Value) (w' : World) : Prop :=
  ∃ (l1 : List Rl) (a : Option Addr) (cap : Nat), v = .agg #[.int .i64 n, .slice a l1.length cap, .string f] ∧ Below W.heap.size W w' ∧ l1.map Rl.core = l.map Rl.core ∧ TabV w' w'.heap.size l1 a cap f
theorem getq0_any {g : Nat} {S : List Nat} {vn : Value} {ns : List ByteArray} {n : Int} {l : List Rl} {a : Option Addr} {cap : Nat} {f : ByteArray} {tk rf : Int} (W0 W : World) (hb : Below W0.heap.size W0 W) (h : Hold 138 W g S vn ns n l a cap f tk rf) (hl : l.length ≤ 1000000) (hps : ∀ x ∈ l, x.preds.length ≤ 1000000) :
    Calls Try.prog 37 #[.pointer (some ⟨g, 0, none⟩)] W (Ret (GetQ0 n l f W0)) :=
  (getq_any W h hl hps).mono fun _ _ ⟨v, he, l1, a1, cap1, hv, hb2, hc, ht⟩ => ⟨v, he, l1, a1, cap1, hv, hb.trans (hb2.mono hb.size), hc, ht⟩
theorem nothing_push (n : Int) (l : List Rl) (a : Option Addr) (cap : Nat) (f : ByteArray) (w : World) : Calls Try.prog 34 #[.pointer none, .agg #[.int .i64 n, .slice a l.length cap, .string f]] w fun e w' => e = .returned (.int .i64 1) ∧ Below w.heap.size w w' := by
  go_enter Try.func34, Try.ntmps34
  go_wp2
  go_ret
  exact ⟨rfl, by go_grown⟩
theorem nothing_get (w : World) : Calls Try.prog 37 #[.pointer none] w fun e w' => e = .returned (.agg #[.int .i64 0, .slice none 0 0, .string ByteArray.empty]) ∧ Below w.heap.size w w' := by
  go_enter Try.func37, Try.ntmps37
  go_wp2
  refine bodyPost_ret (by simp [results, Try.results37, go_sem]; try rfl) rfl ?_
  exact ⟨rfl, by go_grown⟩
theorem nothing_count (F : Nat) (w : World) : Calls Try.prog 93 #[.pointer none, .func (.func F) #[] #[]] w fun e w' => e = .returned (.int .i64 0) ∧ w = w' := by
  go_enter Try.func93, Try.ntmps93
  go_wp2
  go_ret
  exact ⟨rfl, rfl⟩
theorem nothing_version (w : World) : Calls Try.prog 38 #[.pointer none] w fun e w' => e = .returned (.int .i64 0) ∧ w = w' := by
  go_enter Try.func38, Try.ntmps38
  go_wp2_with fail
  refine (nothing_count _ _).mono ?_
  rintro e w' ⟨rfl, rfl⟩
  go_wp2_with fail
  go_ret
  exact ⟨rfl, rfl⟩
theorem nothing_taken (w : World) : Calls Try.prog 39 #[.pointer none] w fun e w' => e = .returned (.int .i64 0) ∧ w = w' := by
  go_enter Try.func39, Try.ntmps39
  go_wp2_with fail
  refine (nothing_count _ _).mono ?_
  rintro e w' ⟨rfl, rfl⟩
  go_wp2_with fail
  go_ret
  exact ⟨rfl, rfl⟩
theorem nothing_refused (w : World) : Calls Try.prog 40 #[.pointer none] w fun e w' => e = .returned (.int .i64 0) ∧ w = w' := by
  go_enter Try.func40, Try.ntmps40
  go_wp2_with fail
  refine (nothing_count _ _).mono ?_
  rintro e w' ⟨rfl, rfl⟩
  go_wp2_with fail
  go_ret
  exact ⟨rfl, rfl⟩
set_option maxRecDepth 100000 in
set_option maxHeartbeats 1000000 in
theorem nothing_any (W : World) : Calls Try.prog 87 #[] W fun e w' => e = .returned (.bool true) ∧ Below W.heap.size W w' := by
  have H0 := hid (fun w => nothing_push 0 [] none 0 ByteArray.empty w)
  have H1 := hid (fun w : World => same_core 0 [] [] none none 0 0 ByteArray.empty w ⟨RowsOf.nil _ _ _ _, by decide, by simp, by decide⟩ ⟨RowsOf.nil _ _ _ _, by decide, by simp, by decide⟩ (by decide) (by simp) rfl)
  go_enter Try.func87, Try.ntmps87
  go_wp2_with fail
  refine (H0.out _).mono ?_
  rintro e w1 ⟨rfl, hb1⟩
  have HB1 := hid hb1
  clear hb1
  go_wp2_with fail
  refine (nothing_get _).mono ?_
  rintro e w2 ⟨rfl, hb2⟩
  have HB2 := hid (HB1.out.trans (hb2.mono HB1.out.size))
  clear hb2
  go_wp2_with fail
  refine (H1.out _).mono ?_
  rintro e w3 ⟨rfl, hb3⟩
  have HB3 := hid (HB2.out.trans (hb3.mono HB2.out.size))
  clear hb3
  go_wp2_with fail
  refine (nothing_version _).mono ?_
  rintro e w' ⟨rfl, rfl⟩
  go_wp2_with fail
  refine (nothing_taken _).mono ?_
  rintro e w' ⟨rfl, rfl⟩
  go_wp2_with fail
  refine (nothing_refused _).mono ?_
  rintro e w' ⟨rfl, rfl⟩
  go_wp2_with fail
  go_ret
  exact ⟨rfl, HB3.out⟩
end C17
end Go.Proofs.Ytmmmaldpalhjeaa
