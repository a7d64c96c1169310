/- Walks of layer 30 (store): traces of one's own; no condition. -/
import Derived.Test.YtdamnbldimompaaE30
import Derived.Test.YtdamnbldimompaaRv
import Derived.Deep.Cut
namespace Go.Peri
open Go.RowKit
theorem blk5 {w : World} {g t : Nat} {a0 a1 a2 a3 a4 : Value} (h : Blk w g #[a0, a1, a2, a3, a4] t) :
    w.cell? ⟨g, 0, none⟩ = some a0 ∧ w.cell? ⟨g, 1, none⟩ = some a1 ∧ w.cell? ⟨g, 2, none⟩ = some a2 ∧ w.cell? ⟨g, 3, none⟩ = some a3 ∧ w.cell? ⟨g, 4, none⟩ = some a4 ∧ ∀ i, w.frozen? ⟨g, i, none⟩ = false :=
  ⟨h.cell 0, h.cell 1, h.cell 2, h.cell 3, h.cell 4, h.free⟩
end Go.Peri
namespace Go.Proofs.Ytdamnbldimompaa
open Go.RowKit Go.Peri
open Gen (flat_set set_mid get_mid map_take_snoc owns_at owns_num owns_le owns_below owns_form)
namespace C30
/-- The spans of a trace lie in a row of their own. -/
def OwnK (base : Nat) (w : World) (k : Kq) : Prop := w.ownsRow base 27 11 (.slice k.pa k.sp.length k.pcap) k.sp.length (k.sp.flatMap Sp.enc)
def kBlk (k : Kq) : List Nat := blocks (.slice k.pa k.sp.length k.pcap)
theorem OwnK.keep {S : List Nat} {base : Nat} {w w' : World} {k : Kq} (h : OwnK base w k) (ho : Only S w w') (hs : Disj (kBlk k) S) : OwnK base w' k := owns_keep h ho hs
theorem OwnK.bd {base : Nat} {w : World} {k : Kq} (h : OwnK base w k) : ∀ b, b ∈ kBlk k → base ≤ b ∧ b < w.heap.size := owns_bd h
theorem OwnK.le {base base' : Nat} {w : World} {k : Kq} (h : OwnK base w k) (hb : base' ≤ base) : OwnK base' w k := owns_le h hb
/-- A trace's value. -/
def kv (k : Kq) : Value := .agg #[.int .u64 k.hi, .int .u64 k.lo, .slice k.pa k.sp.length k.pcap, .bool k.spilled, .bool k.clash]
def OwnQ (W : World) (k : Kq) (v : Value) (w' : World) : Prop := ∃ pa pcap, v = .agg #[.int .u64 k.hi, .int .u64 k.lo, .slice pa k.sp.length pcap, .bool k.spilled, .bool k.clash] ∧ Below W.heap.size W w' ∧ OwnK W.heap.size w' { k with pa := pa, pcap := pcap }
set_option maxRecDepth 100000 in
set_option maxHeartbeats 2000000 in
theorem own_any {p : Nat → Prop} (k : Kq) (W : World) (h : k.At p W) (hp : ∀ b, p b → b < W.heap.size) (hl : k.sp.length ≤ 1000000) :
    Calls Try.prog 28 #[.agg #[.int .u64 k.hi, .int .u64 k.lo, .slice k.pa k.sp.length k.pcap, .bool k.spilled, .bool k.clash]] W (Ret (OwnQ W k)) := by
  have HC := hid (fun W' (hb : Below W.heap.size W W') => sclone_any (p := p) (.slice k.pa k.sp.length k.pcap) k.sp W' (RowsOf.below h hb hp) (fun b hb' => Nat.lt_of_lt_of_le (hp b hb') hb.size) hl)
  clear h hp
  go_enter Try.func28, Try.ntmps28
  go_wp2_with fail
  refine (HC.out _ (((Below.refl _ W).alloc (Nat.le_refl _) _).alloc (by simp) _)).mono ?_
  rintro e w1 ⟨pa, pcap, rfl, hb1, hown⟩
  obtain ⟨z0, z1, z2, z3, z4, zf⟩ := blk5 (((Blk.new W _ _).alloc _).later hb1)
  obtain ⟨y0, y1, y2, y3, y4, yf⟩ := blk5 ((Blk.new' (n := W.heap.size + 1) (W.alloc (.cells #[.int .u64 k.hi, .int .u64 k.lo, .slice k.pa k.sp.length k.pcap, .bool k.spilled, .bool k.clash] 34)) #[.int .u64 0, .int .u64 0, .slice none 0 0, .bool false, .bool false] 34 (by simp)).later hb1)
  have HB1 : Hid (Below W.heap.size W w1) := (((Below.refl _ W).alloc (Nat.le_refl _) _).alloc (by simp) _).trans (hb1.mono (by simp; omega))
  have HO : Hid (w1.ownsRow (W.heap.size + 2) 27 11 (.slice pa k.sp.length pcap) k.sp.length (k.sp.flatMap Sp.enc)) := hid (by have := hown.out; simpa using this)
  have hg : W.heap.size + 1 < w1.heap.size := by have := hb1.size; simp at this; omega
  have hg0 : W.heap.size < w1.heap.size := by omega
  have HON := hid (fun w' (ho : Only [W.heap.size, W.heap.size + 1] w1 w') => (show OwnQ W k (.agg #[.int .u64 k.hi, .int .u64 k.lo, .slice pa k.sp.length pcap, .bool k.spilled, .bool k.clash]) w' from ⟨pa, pcap, rfl, HB1.out.trans (ho.below HB1.out.size (fun b hb => by simp at hb; omega)), owns_le (owns_keep HO.out ho (fun b hb => by have := (owns_bd HO.out b hb).1; simp; omega)) (by omega)⟩))
  clear hb1 hown HC
  go_wp2_with fail
  refine bodyPost_ret (by simp [results, Try.results28, go_sem, z0, z1, z2, z3, z4, y0, y1, y2, y3, y4]; try rfl) rfl ?_
  refine ⟨_, rfl, HON.out _ ?_⟩
  iterate 6 (refine Only.setCell ?_ (by simp) _)
  exact Only.refl _ _
end C30
end Go.Proofs.Ytdamnbldimompaa
