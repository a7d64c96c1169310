/- Walks of layer 35 (graph): names, nodes; no condition. -/
import Derived.Test.YtahakgmfkplidaaT35
namespace Go.Proofs.Ytahakgmfkplidaa
open Go.RowKit Go.Peri
namespace C35
open C04 (elemS)
theorem nm_snoc {l : List Sv} {k : Nat} (hk : k < l.length) : ((l.map Sv.name).take (k + 1)).flatMap sEnc = ((l.map Sv.name).take k).flatMap sEnc ++ [.string l[k].name] := by
  rw [List.take_succ_eq_append_getElem (by simpa using hk), List.flatMap_append, List.getElem_map]
  rfl
set_option maxRecDepth 100000 in
theorem names_any {p : Nat → Prop} (v : Value) (l : List Sv) (W : World) (h : RowsOf p Sv.enc 2 W v l) (hp : ∀ b, p b → b < W.heap.size) (hl : l.length ≤ 1000000000) :
    Calls Try.prog 11 #[v] W (NewR sEnc 1 l.length W (l.map Sv.name)) := by
  obtain ⟨a, cap, rfl, hlc, hcm, _, hcell⟩ := h
  have HC := hid hcell
  have HP := hid hp
  clear hcell hp
  go_enter Try.func11, Try.ntmps11
  go_wp2_with fail
  go_loopw [3, 8] (fun u i wr => ∃ k : Nat, k ≤ l.length ∧ i = .int .i64 k ∧ Hid (Below W.heap.size W wr) ∧ Hid (wr.ownsRow W.heap.size 9 1 u k (((l.map Sv.name).take k).flatMap sEnc))) (fun _ i _ => l.length - (intOf i).toNat)
  case atStart => exact ⟨0, Nat.zero_le _, rfl, hid (Below.refl _ _), hid (World.ownsRow_nil _ _ _ _)⟩
  case round =>
    obtain ⟨k, hk, rfl, HB, HOWN⟩ := hrel
    by_cases hlt : k < l.length
    · obtain ⟨b, off, rfl, hpb, hc⟩ := HC.out.resolve_left (by intro e; rw [e] at hlt; simp at hlt)
      have hbl := HP.out b hpb
      obtain ⟨c0, c1⟩ := Sv.cells (fun j u hu => (HB.out.cell (p := ⟨b, off + k * 2 + j, none⟩) hbl).trans (hc k hlt j u hu))
      have HSN := hid (nm_snoc hlt)
      have hws := HB.out.size
      clear hc
      generalize l[k] = y at c0 c1 HSN
      obtain ⟨name, pa, pcap, hs⟩ := y
      dsimp only at c0 c1 HSN
      generalize hs.length = n at c1
      have HB2 : Hid (Below W.heap.size W (wr.alloc (.cells #[.string name, .slice pa n pcap] 39))) := HB.out.alloc hws _
      have HO2 : Hid ((wr.alloc (.cells #[.string name, .slice pa n pcap] 39)).ownsRow W.heap.size 9 1 u3 k (((l.map Sv.name).take k).flatMap sEnc)) := HOWN.out.alloc _
      have HSZ : Hid ((wr.alloc (.cells #[.string name, .slice pa n pcap] 39)).heap.size = wr.heap.size + 1) := hid (by simp)
      clear HOWN
      go_wp2_with (at_builtin; refine wpList_pushH elemS rfl _ _ rfl W.heap.size _ _ _ [.string name] rfl HO2.out rfl (wr.heap.size + 1) HSZ.out rfl rfl (by simp [Value.oneCell']) ?_ ?_ ?_ ?_)
      · unfold maxLen; omega
      · omega
      · omega
      intro v2 w2 hown2 hb2
      have HB3 := hid (HB2.out.trans hb2)
      have HO3 : Hid (w2.ownsRow W.heap.size 9 1 v2 (k + 1) (((l.map Sv.name).take (k + 1)).flatMap sEnc)) := hid (by rw [HSN.out]; exact hown2)
      clear hown2 hb2
      go_wp2_with fail
      go_roundw
      case rel => exact ⟨k + 1, by omega, by go_num, HB3, HO3⟩
      case measure => simp [intOf]; omega
    · obtain rfl : k = l.length := by omega
      have hown := HOWN.out
      rw [List.take_of_length_le (by simp)] at hown
      obtain ⟨a5, cap5, rfl⟩ := owns_form hown
      have HR : Hid (Reads sEnc 1 wr (.slice a5 l.length cap5) (l.map Sv.name)) := hid (Reads.owns (enc := sEnc) (l := l.map Sv.name) (fun _ => rfl) (by rw [List.length_map]; exact hown))
      clear hown HOWN
      go_wp2_with fail
      go_ret
      exact ⟨a5, cap5, rfl, HB.out, HR⟩
set_option maxRecDepth 100000 in
theorem rnames_any {p : Nat → Prop} (v : Value) (l : List Sv) (W : World) (h : RowsOf p Sv.enc 2 W v l) (hp : ∀ b, p b → b < W.heap.size) (hl : l.length ≤ 1000000000) :
    Calls Try.prog 12 #[v] W (NewR sEnc 1 l.length W (l.map Sv.name)) := by
  obtain ⟨a, cap, rfl, hlc, hcm, _, hcell⟩ := h
  have HC := hid hcell
  have HP := hid hp
  clear hcell hp
  go_enter Try.func12, Try.ntmps12
  go_wp2_with fail
  go_loopw [3, 4] (fun u i wr => ∃ k : Nat, k ≤ l.length ∧ i = .int .i64 k ∧ Hid (Below W.heap.size W wr) ∧ Hid (wr.ownsRow W.heap.size 9 1 u k (((l.map Sv.name).take k).flatMap sEnc))) (fun _ i _ => l.length - (intOf i).toNat)
  case atStart => exact ⟨0, Nat.zero_le _, rfl, hid (Below.refl _ _), hid (World.ownsRow_nil _ _ _ _)⟩
  case round =>
    obtain ⟨k, hk, rfl, HB, HOWN⟩ := hrel
    by_cases hlt : k < l.length
    · obtain ⟨b, off, rfl, hpb, hc⟩ := HC.out.resolve_left (by intro e; rw [e] at hlt; simp at hlt)
      have hbl := HP.out b hpb
      obtain ⟨c0, c1⟩ := Sv.cells (fun j u hu => (HB.out.cell (p := ⟨b, off + k * 2 + j, none⟩) hbl).trans (hc k hlt j u hu))
      have HSN := hid (nm_snoc hlt)
      have hws := HB.out.size
      clear hc c1
      generalize l[k] = y at c0 HSN
      obtain ⟨name, pa, pcap, hs⟩ := y
      dsimp only at c0 HSN
      go_wp2_with (at_builtin; refine wpList_push elemS rfl _ _ rfl W.heap.size _ _ _ [.string name] rfl HOWN.out rfl rfl rfl (by simp [Value.oneCell']) ?_ ?_ ?_ ?_)
      · unfold maxLen; omega
      · omega
      · omega
      intro v2 w2 hown2 hb2
      have HB3 := hid (HB.out.trans hb2)
      have HO3 : Hid (w2.ownsRow W.heap.size 9 1 v2 (k + 1) (((l.map Sv.name).take (k + 1)).flatMap sEnc)) := hid (by rw [HSN.out]; exact hown2)
      clear hown2 hb2 HOWN
      go_wp2_with fail
      go_roundw
      case rel => exact ⟨k + 1, by omega, by go_num, HB3, HO3⟩
      case measure => simp [intOf]; omega
    · obtain rfl : k = l.length := by omega
      have hown := HOWN.out
      rw [List.take_of_length_le (by simp)] at hown
      obtain ⟨a5, cap5, rfl⟩ := owns_form hown
      have HR : Hid (Reads sEnc 1 wr (.slice a5 l.length cap5) (l.map Sv.name)) := hid (Reads.owns (enc := sEnc) (l := l.map Sv.name) (fun _ => rfl) (by rw [List.length_map]; exact hown))
      clear hown HOWN
      go_wp2_with fail
      go_ret
      exact ⟨a5, cap5, rfl, HB.out, HR⟩
/-- The node of a name. -/
def nodeR (l : List Sv) (n : ByteArray) : Int := if Gx.atI Sv.name l n < 0 then -1 else Gx.atI Sv.name l n + 1
theorem atI_range (l : List Sv) (n : ByteArray) : Gx.atI Sv.name l n = -1 ∨ ∃ k : Nat, k < l.length ∧ Gx.atI Sv.name l n = k := by
  unfold Gx.atI
  split
  · exact .inr ⟨_, by assumption, rfl⟩
  · exact .inl rfl
set_option maxRecDepth 100000 in
theorem node_any {p : Nat → Prop} (v : Value) (l : List Sv) (n : ByteArray) (r : Int) (W : World) (h : RowsOf p Sv.enc 2 W v l) (hp : ∀ b, p b → b < W.heap.size) (hl : l.length ≤ 10000000000000) (hr : nodeR l n = r) :
    Calls Try.prog 15 #[v, .string n] W fun e w' => e = .returned (.int .i64 r) ∧ Below W.heap.size W w' := by
  obtain ⟨q, hq⟩ : ∃ q, Gx.atI Sv.name l n = q := ⟨_, rfl⟩
  have XF := hid (sfind_any v l n q W h hp hl hq)
  have HR := hid hr
  unfold nodeR at HR
  rw [hq] at HR
  have hrg := atI_range l n
  rw [hq] at hrg
  obtain ⟨a, cap, rfl, -⟩ := h
  clear hq hr hp
  rcases hrg with rfl | ⟨k, hk, rfl⟩
  · rw [if_pos (by decide)] at HR
    go_enter Try.func15, Try.ntmps15
    go_wp2_with fail
    refine XF.out.mono ?_
    rintro e w1 ⟨rfl, hb1⟩
    have HB1 := hid hb1
    clear hb1
    go_wp2_with fail
    go_ret
    exact ⟨by rw [← HR.out]; rfl, HB1.out⟩
  · rw [if_neg (by omega)] at HR
    go_enter Try.func15, Try.ntmps15
    go_wp2_with fail
    refine XF.out.mono ?_
    rintro e w1 ⟨rfl, hb1⟩
    have HB1 := hid hb1
    clear hb1
    go_wp2_with fail
    go_ret
    refine ⟨?_, HB1.out⟩
    rw [← HR.out]
    apply ret_int
    go_num
set_option maxRecDepth 100000 in
theorem rnode_any {p : Nat → Prop} (v : Value) (l : List Sv) (n : ByteArray) (r : Int) (W : World) (h : RowsOf p Sv.enc 2 W v l) (hp : ∀ b, p b → b < W.heap.size) (hl : l.length ≤ 10000000000000) (hr : nodeR l n = r) :
    Calls Try.prog 16 #[v, .string n] W fun e w' => e = .returned (.int .i64 r) ∧ Below W.heap.size W w' := by
  obtain ⟨a, cap, rfl, hlc, hcm, _, hcell⟩ := h
  have HC := hid hcell
  have HP := hid hp
  have HR := hid hr
  clear hcell hp hr
  go_enter Try.func16, Try.ntmps16
  go_wp2_with fail
  go_loopw [5] (fun i wr => W = wr ∧ ∃ k : Nat, k ≤ l.length ∧ i = .int .i64 k ∧ Hid (∀ j (_ : j < k) (hj : j < l.length), Sv.name l[j] ≠ n)) (fun i _ => l.length - (intOf i).toNat)
  case atStart => exact ⟨rfl, 0, Nat.zero_le _, rfl, hid (fun j hj => absurd hj (Nat.not_lt_zero _))⟩
  case round =>
    obtain ⟨rfl, k, hk, rfl, HN⟩ := hrel
    by_cases hlt : k < l.length
    · obtain ⟨b, off, rfl, hpb, hc⟩ := HC.out.resolve_left (by intro e; rw [e] at hlt; simp at hlt)
      obtain ⟨c0, c1⟩ := Sv.cells (fun j u hu => hc k hlt j u hu)
      have HNx : Hid (l[k].name ≠ n → ∀ j (_ : j < k + 1) (hj : j < l.length), Sv.name l[j] ≠ n) := hid (fun h j hj hjl => by
        by_cases e : j = k
        · subst e; exact h
        · exact HN.out j (by omega) hjl)
      have HH : Hid (l[k].name = n → r = k + 1) := hid (fun h => by
        rw [← HR.out]
        unfold nodeR
        rw [Gx.atI_hit hlt h HN.out, if_neg (by omega)])
      clear hc c1
      generalize l[k].name = y at c0 HNx HH
      obtain ⟨bq, hbq⟩ : ∃ bq, decide (y = n) = bq := ⟨_, rfl⟩
      obtain ⟨s1, s2⟩ := strEq_of hbq
      have HX := hid hbq
      clear hbq
      cases bq
      · go_wp2_with fail
        go_roundw
        case rel => exact ⟨by first | rfl | trivial, k + 1, by omega, by go_num, hid (HNx.out (of_decide_eq_false HX.out))⟩
        case measure => simp [intOf]; omega
      · have HZ := hid (HH.out (of_decide_eq_true HX.out))
        go_wp2_with fail
        go_ret
        refine ⟨?_, Below.refl _ _⟩
        rw [HZ.out]
        apply ret_int
        go_num
    · obtain rfl : k = l.length := by omega
      have hz : r = -1 := by rw [← HR.out]; unfold nodeR; rw [Gx.atI_none (fun j hj => HN.out j hj hj)]; rfl
      have HZ := hid hz
      clear hz
      go_wp2_with fail
      go_ret
      exact ⟨by rw [HZ.out]; rfl, Below.refl _ _⟩
end C35
end Go.Proofs.Ytahakgmfkplidaa
