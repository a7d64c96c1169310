/- Walks of layer 30 (store): which traces there are; no condition. -/
import Derived.Test.YtdamnbldimompaaO30
namespace Go.Proofs.Ytdamnbldimompaa
open Go.RowKit Go.Peri
open Gen (rows_of_blk flat_set set_mid get_mid map_take_snoc owns_at owns_num owns_le owns_below owns_form)
namespace C30
theorem elemT : Elem Try.prog 37 25 2 16 := Elem.mk' (z := .agg #[.int .u64 0, .int .u64 0]) Try.underlying37 (by kernel_rfl) rfl (by decide)
def trs (l : List Kp) : List Value := l.flatMap (fun k => [.int .u64 k.hi, .int .u64 k.lo])
theorem trs_snoc {l : List Kq} {k : Nat} (h : k < l.length) : trs ((l.take (k + 1)).map Kq.core) = trs ((l.take k).map Kq.core) ++ [.int .u64 l[k].hi, .int .u64 l[k].lo] := by
  rw [List.take_succ_eq_append_getElem h, List.map_append]
  unfold trs
  rw [List.flatMap_append]
  rfl
def TrQ (W : World) (l : List Kq) (v : Value) (w' : World) : Prop := ∃ a cap, v = .slice a l.length cap ∧ Below W.heap.size W w' ∧ w'.ownsRow W.heap.size 25 2 (.slice a l.length cap) l.length (trs (l.map Kq.core))
set_option maxRecDepth 100000 in
set_option maxHeartbeats 4000000 in
theorem rtraces_any (v : Value) (l : List Kq) (W : World) (h : RowsOf (· < W.heap.size) Kq.enc 5 W v l) (hl : l.length ≤ 1000000) :
    Calls Try.prog 14 #[v] W (Ret (TrQ W l)) := by
  obtain ⟨a, cap, rfl, hlc, hcm, _, hcell⟩ := h
  have HC := hid hcell
  clear hcell
  go_enter Try.func14, Try.ntmps14
  go_wp2_with fail
  go_loopw [3, 4] (fun o i wr => ∃ k : Nat, k ≤ l.length ∧ i = .int .i64 k ∧ Hid (Below W.heap.size W wr) ∧ Hid (wr.ownsRow W.heap.size 25 2 o k (trs ((l.take k).map Kq.core)))) (fun _ i _ => l.length - (intOf i).toNat)
  case atStart => exact ⟨0, Nat.zero_le _, rfl, hid (Below.refl _ _), hid (World.ownsRow_nil _ _ _ _)⟩
  case round =>
    obtain ⟨k, hk, rfl, HB, HO⟩ := hrel
    by_cases hlt : k < l.length
    · obtain ⟨x, hx⟩ : ∃ x, l[k] = x := ⟨_, rfl⟩
      obtain ⟨b, off, rfl, hbl, hc⟩ : ∃ b off, a = some ⟨b, off, none⟩ ∧ b < W.heap.size ∧ ∀ j u, x.enc[j]? = some u → W.cell? ⟨b, off + k * 5 + j, none⟩ = some u := by
        rcases HC.out with h5 | ⟨b, off, h1, h2, h3⟩
        · rw [h5] at hlt; simp at hlt
        · exact ⟨b, off, h1, h2, fun j u hu => h3 k hlt j u (by rw [hx]; exact hu)⟩
      obtain ⟨c0, c1, c2, c3, c4⟩ := Kq.cells (fun j u hu => (HB.out.cell (p := ⟨b, off + k * 5 + j, none⟩) hbl).trans (hc j u hu))
      have HT := hid (trs_snoc hlt)
      rw [hx] at HT
      have hbs : W.heap.size ≤ wr.heap.size := HB.out.size
      clear hc hx c2 c3 c4
      go_wp2_with (at_builtin; refine wpList_push elemT rfl _ _ rfl W.heap.size _ _ _ [.int .u64 x.hi, .int .u64 x.lo] rfl HO.out rfl rfl rfl (by simp [Value.oneCell']) ?_ ?_ hbs ?_)
      · unfold maxLen; omega
      · omega
      intro v2 w2 hown2 hb2
      have HB2 := hid (HB.out.trans hb2)
      have HO2 : Hid (w2.ownsRow W.heap.size 25 2 v2 (k + 1) (trs ((l.take (k + 1)).map Kq.core))) := hid (by rw [HT.out]; simpa only [List.map_take] using hown2)
      clear hown2 hb2 HT HO c0 c1
      go_wp2_with fail
      go_roundw
      case rel => exact ⟨k + 1, by omega, by go_num, HB2, HO2⟩
      case measure => simp [intOf]; omega
    · obtain rfl : k = l.length := by omega
      have HF := HO
      rw [List.take_length] at HF
      obtain ⟨a2, c2, rfl⟩ := owns_form HF.out
      clear HO
      go_wp2_with fail
      go_ret
      exact ⟨_, rfl, a2, c2, rfl, HB.out, HF.out⟩
set_option maxRecDepth 100000 in
set_option maxHeartbeats 4000000 in
theorem traces_any (v : Value) (l : List Kq) (W : World) (h : RowsOf (· < W.heap.size) Kq.enc 5 W v l) (hl : l.length ≤ 1000000) :
    Calls Try.prog 13 #[v] W (Ret (TrQ W l)) := by
  obtain ⟨a, cap, rfl, hlc, hcm, _, hcell⟩ := h
  have HC := hid hcell
  clear hcell
  go_enter Try.func13, Try.ntmps13
  go_wp2_with fail
  go_loopw [3, 8] (fun o i wr => ∃ k : Nat, k ≤ l.length ∧ i = .int .i64 k ∧ Hid (Below W.heap.size W wr) ∧ Hid (wr.ownsRow W.heap.size 25 2 o k (trs ((l.take k).map Kq.core)))) (fun _ i _ => l.length - (intOf i).toNat)
  case atStart => exact ⟨0, Nat.zero_le _, rfl, hid (Below.refl _ _), hid (World.ownsRow_nil _ _ _ _)⟩
  case round =>
    obtain ⟨k, hk, rfl, HB, HO⟩ := hrel
    by_cases hlt : k < l.length
    · obtain ⟨x, hx⟩ : ∃ x, l[k] = x := ⟨_, rfl⟩
      obtain ⟨b, off, rfl, hbl, hc⟩ : ∃ b off, a = some ⟨b, off, none⟩ ∧ b < W.heap.size ∧ ∀ j u, x.enc[j]? = some u → W.cell? ⟨b, off + k * 5 + j, none⟩ = some u := by
        rcases HC.out with h5 | ⟨b, off, h1, h2, h3⟩
        · rw [h5] at hlt; simp at hlt
        · exact ⟨b, off, h1, h2, fun j u hu => h3 k hlt j u (by rw [hx]; exact hu)⟩
      obtain ⟨c0, c1, c2, c3, c4⟩ := Kq.cells (fun j u hu => (HB.out.cell (p := ⟨b, off + k * 5 + j, none⟩) hbl).trans (hc j u hu))
      have HT := hid (trs_snoc hlt)
      rw [hx] at HT
      have hbs : W.heap.size ≤ wr.heap.size := HB.out.size
      obtain ⟨w1, hw1⟩ : ∃ w, w = wr.alloc (.cells #[.int .u64 x.hi, .int .u64 x.lo, .slice x.pa x.sp.length x.pcap, .bool x.spilled, .bool x.clash] 34) := ⟨_, rfl⟩
      have HO1 : Hid ((wr.alloc (.cells #[.int .u64 x.hi, .int .u64 x.lo, .slice x.pa x.sp.length x.pcap, .bool x.spilled, .bool x.clash] 34)).ownsRow W.heap.size 25 2 _ k (trs ((l.take k).map Kq.core))) := hid (HO.out.alloc _)
      have HB1 : Hid (Below W.heap.size W (wr.alloc (.cells #[.int .u64 x.hi, .int .u64 x.lo, .slice x.pa x.sp.length x.pcap, .bool x.spilled, .bool x.clash] 34))) := hid (HB.out.alloc hbs _)
      clear hc hx hw1
      go_wp2_with (at_builtin; refine wpList_push elemT rfl _ _ rfl W.heap.size _ _ _ [.int .u64 x.hi, .int .u64 x.lo] rfl HO1.out rfl (by simp [Act.eval, Act.put]) rfl (by simp [Value.oneCell']) ?_ ?_ (by simp; omega) ?_)
      · unfold maxLen; omega
      · omega
      intro v2 w2 hown2 hb2
      have HB2 := hid (HB1.out.trans hb2)
      have HO2 : Hid (w2.ownsRow W.heap.size 25 2 v2 (k + 1) (trs ((l.take (k + 1)).map Kq.core))) := hid (by rw [HT.out]; simpa only [List.map_take] using hown2)
      clear hown2 hb2 HT HO HO1 HB1 c0 c1 c2 c3 c4
      go_wp2_with fail
      go_roundw
      case rel => exact ⟨k + 1, by omega, by go_num, HB2, HO2⟩
      case measure => simp [intOf]; omega
    · obtain rfl : k = l.length := by omega
      have HF := HO
      rw [List.take_length] at HF
      obtain ⟨a2, c2, rfl⟩ := owns_form HF.out
      clear HO
      go_wp2_with fail
      go_ret
      exact ⟨_, rfl, a2, c2, rfl, HB.out, HF.out⟩
end C30
end Go.Proofs.Ytdamnbldimompaa
