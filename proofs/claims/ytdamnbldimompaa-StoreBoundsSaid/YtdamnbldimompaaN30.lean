/- Walks of layer 30 (store): a trace got; no condition. -/
import Derived.Test.YtdamnbldimompaaM30
namespace Go.Proofs.Ytdamnbldimompaa
open Go.RowKit Go.Peri
open Gen (rows_of_blk flat_set set_mid get_mid map_take_snoc owns_at owns_num owns_le owns_below owns_form)
namespace C30
open Kp (ix ixS)
def GetQ (W : World) (l : List Kq) (hi lo : Nat) (v : Value) (w' : World) : Prop := ∃ k : Kq, v = .tuple #[kv k, .bool (Kp.has (l.map Kq.core) hi lo)] ∧ k.core = Kp.get (l.map Kq.core) hi lo ∧ Below W.heap.size W w' ∧ k.At (· < w'.heap.size) w'
set_option maxRecDepth 100000 in
set_option maxHeartbeats 4000000 in
theorem get_any (v : Value) (l : List Kq) (hi lo : Nat) (W : World) (h : RowsOf (· < W.heap.size) Kq.enc 5 W v l) (hl : l.length ≤ 1000000) (ha : ∀ x ∈ l, x.At (· < W.heap.size) W) (hps : ∀ x ∈ l, x.sp.length ≤ 1000000) :
    Calls Try.prog 11 #[v, .agg #[.int .u64 hi, .int .u64 lo]] W (Ret (GetQ W l hi lo)) := by
  have HF := hid (fun r hr w' (hb : Below W.heap.size W w') => find_any (p := (· < W.heap.size)) v l hi lo r w' (h.below hb (fun _ h => h)) (fun b hb' => Nat.lt_of_lt_of_le hb' hb.size) (by omega) hr)
  by_cases hix : ix (l.map Kq.core) hi lo < l.length
  · obtain ⟨k, hk⟩ : ∃ k, ix (l.map Kq.core) hi lo = k := ⟨_, rfl⟩
    have HF1 := hid (HF.out k (by rw [atK_pos hix, hk]))
    have hkl : k < l.length := by omega
    obtain ⟨x, hx⟩ : ∃ x, l[k] = x := ⟨_, rfl⟩
    have hxm : x ∈ l := by rw [← hx]; exact List.getElem_mem _
    have HAS : Hid (Kp.has (l.map Kq.core) hi lo = true) := hid (decide_eq_true (by rw [List.length_map]; exact hix))
    have HGET : Hid (Kp.get (l.map Kq.core) hi lo = x.core) := hid (by
      unfold Kp.get
      rw [dif_pos (show ix (l.map Kq.core) hi lo < (l.map Kq.core).length by rw [List.length_map]; exact hix)]
      subst hk
      simp only [List.getElem_map, hx])
    have HXA := hid (ha x hxm)
    have HO := hid (fun w' (hb : Below W.heap.size W w') => own_any (p := (· < W.heap.size)) x w' ((ha x hxm).below hb (fun _ h => h)) (fun b hb' => Nat.lt_of_lt_of_le hb' hb.size) (hps x hxm))
    obtain ⟨a, cap, rfl⟩ : ∃ a cap, v = .slice a l.length cap := by
      obtain ⟨a, cap, e, _⟩ := h
      exact ⟨a, cap, e⟩
    obtain ⟨b, off, rfl, hbW, hcs⟩ : ∃ b off, a = some ⟨b, off, none⟩ ∧ b < W.heap.size ∧ ∀ j u, x.enc[j]? = some u → W.cell? ⟨b, off + k * 5 + j, none⟩ = some u := by
      obtain ⟨a', c', e, _, _, _, h5⟩ := h
      cases e
      rcases h5 with h5 | ⟨b, off, h1, h2, h3⟩
      · rw [h5] at hkl; simp at hkl
      · exact ⟨b, off, h1, h2, fun j u hu => h3 k hkl j u (by rw [hx]; exact hu)⟩
    have HCS := hid hcs
    clear h ha hps hk hx hxm hcs HF
    clear hix
    go_enter Try.func11, Try.ntmps11
    go_wp2_with fail
    refine (HF1.out _ (((Below.refl _ W).alloc (Nat.le_refl _) _).alloc (by simp) _)).mono ?_
    rintro e w1 ⟨rfl, hb1⟩
    have HR1 : Hid (Blk w1 (W.heap.size + 1) #[.int .u64 0, .int .u64 0, .slice none 0 0, .bool false, .bool false] 34) := hid ((Blk.new' _ _ _ (by simp)).later hb1)
    have HB1 : Hid (Below W.heap.size W w1) := hid ((((Below.refl _ W).alloc (Nat.le_refl _) _).alloc (by simp) _).trans (hb1.mono (by simp; omega)))
    have hs1 : W.heap.size ≤ w1.heap.size := HB1.out.size
    have hbw1 : b < w1.heap.size := by omega
    obtain ⟨c0, c1, c2, c3, c4⟩ := Kq.cells (fun j u hu => (HB1.out.cell (p := ⟨b, off + k * 5 + j, none⟩) hbW).trans (HCS.out j u hu))
    clear hb1 HF1
    have i1 : (0 : Int) ≤ (k : Int) := by omega
    have i2 : (k : Int) < (l.length : Int) := by omega
    go_wp2_with fail
    refine (HO.out _ HB1.out).mono ?_
    rintro e w2 ⟨v2, rfl, pa, pcap, rfl, hb2, hown2⟩
    have HB2 : Hid (Below W.heap.size W w2) := hid (HB1.out.trans (hb2.mono HB1.out.size))
    have HR2 := hid (HR1.out.later hb2)
    obtain ⟨y0, y1, y2, y3, y4, yf⟩ := blk5 HR2.out
    have hg2 := HR2.out.lt
    have HFIN : Hid (∀ w3, Only [W.heap.size + 1] w2 w3 → GetQ W l hi lo (.tuple #[.agg #[.int .u64 x.hi, .int .u64 x.lo, .slice pa x.sp.length pcap, .bool x.spilled, .bool x.clash], .bool true]) w3) := hid (fun w3 ho => by
      have hb3 := HB2.out.trans (ho.below HB2.out.size (fun b hb => by simp at hb; omega))
      refine ⟨{ x with pa := pa, pcap := pcap }, by rw [HAS.out]; rfl, by rw [HGET.out]; rfl, hb3, ?_⟩
      have h1 := OwnK.keep hown2 ho (fun b hb => by
        have h7 := (owns_bd hown2 b hb).1
        have h8 := HR1.out.lt
        simp; omega)
      exact RowsOf.imp (RowsOf.of_owns (e := 27) Sp.enc_length h1) (fun b hb => hb.2))
    clear hb2 hown2 c0 c1 c2 c3 c4 HR1
    go_wp2_with fail
    refine bodyPost_ret (by simp [results, Try.results11, go_sem, y0, y1, y2, y3, y4]; try rfl) rfl ?_
    refine ⟨_, rfl, HFIN.out _ ?_⟩
    iterate 5 (refine Only.setCell ?_ (by simp) _)
    exact Only.refl _ _
  · have HF1 := hid (HF.out (-1) (atK_neg hix))
    have HAS : Hid (Kp.has (l.map Kq.core) hi lo = false) := hid (decide_eq_false (by rw [List.length_map]; exact hix))
    have HGET : Hid (Kp.get (l.map Kq.core) hi lo = Kp.zero) := hid (by
      unfold Kp.get
      rw [dif_neg (show ¬ ix (l.map Kq.core) hi lo < (l.map Kq.core).length by rw [List.length_map]; exact hix)])
    clear h ha hps hix HF
    go_enter Try.func11, Try.ntmps11
    go_wp2_with fail
    refine (HF1.out _ (((Below.refl _ W).alloc (Nat.le_refl _) _).alloc (by simp) _)).mono ?_
    rintro e w1 ⟨rfl, hb1⟩
    have HR1 : Hid (Blk w1 (W.heap.size + 1) #[.int .u64 0, .int .u64 0, .slice none 0 0, .bool false, .bool false] 34) := hid ((Blk.new' _ _ _ (by simp)).later hb1)
    have HB1 : Hid (Below W.heap.size W w1) := hid ((((Below.refl _ W).alloc (Nat.le_refl _) _).alloc (by simp) _).trans (hb1.mono (by simp; omega)))
    have hs1 : W.heap.size ≤ w1.heap.size := HB1.out.size
    obtain ⟨y0, y1, y2, y3, y4, yf⟩ := blk5 HR1.out
    have hg2 := HR1.out.lt
    have HFIN : Hid (∀ w3, Only [W.heap.size + 1] w1 w3 → GetQ W l hi lo (.tuple #[.agg #[.int .u64 0, .int .u64 0, .slice none 0 0, .bool false, .bool false], .bool false]) w3) := hid (fun w3 ho => by
      have hb3 := HB1.out.trans (ho.below HB1.out.size (fun b hb => by simp at hb; omega))
      exact ⟨⟨0, 0, none, 0, [], false, false⟩, by rw [HAS.out]; rfl, by rw [HGET.out]; rfl, hb3, RowsOf.nil _ _ _ _⟩)
    clear hb1 HF1
    go_wp2_with fail
    refine bodyPost_ret (by simp [results, Try.results11, go_sem, y0, y1, y2, y3, y4]; try rfl) rfl ?_
    refine ⟨_, rfl, HFIN.out _ ?_⟩
    iterate 5 (refine Only.setCell ?_ (by simp) _)
    exact Only.refl _ _
set_option maxRecDepth 100000 in
set_option maxHeartbeats 4000000 in
theorem rget_any (v : Value) (l : List Kq) (hi lo : Nat) (W : World) (h : RowsOf (· < W.heap.size) Kq.enc 5 W v l) (hl : l.length ≤ 1000000) (ha : ∀ x ∈ l, x.At (· < W.heap.size) W) (hps : ∀ x ∈ l, x.sp.length ≤ 1000000) :
    Calls Try.prog 12 #[v, .agg #[.int .u64 hi, .int .u64 lo]] W (Ret (GetQ W l hi lo)) := by
  have HF := hid (fun r hr w' (hb : Below W.heap.size W w') => rat_any (p := (· < W.heap.size)) v l hi lo r w' (h.below hb (fun _ h => h)) (fun b hb' => Nat.lt_of_lt_of_le hb' hb.size) (by omega) hr)
  by_cases hix : ix (l.map Kq.core) hi lo < l.length
  · obtain ⟨k, hk⟩ : ∃ k, ix (l.map Kq.core) hi lo = k := ⟨_, rfl⟩
    have HF1 := hid (HF.out k (by rw [atK_pos hix, hk]))
    have hkl : k < l.length := by omega
    obtain ⟨x, hx⟩ : ∃ x, l[k] = x := ⟨_, rfl⟩
    have hxm : x ∈ l := by rw [← hx]; exact List.getElem_mem _
    have HAS : Hid (Kp.has (l.map Kq.core) hi lo = true) := hid (decide_eq_true (by rw [List.length_map]; exact hix))
    have HGET : Hid (Kp.get (l.map Kq.core) hi lo = x.core) := hid (by
      unfold Kp.get
      rw [dif_pos (show ix (l.map Kq.core) hi lo < (l.map Kq.core).length by rw [List.length_map]; exact hix)]
      subst hk
      simp only [List.getElem_map, hx])
    have HXA := hid (ha x hxm)
    obtain ⟨a, cap, rfl⟩ : ∃ a cap, v = .slice a l.length cap := by
      obtain ⟨a, cap, e, _⟩ := h
      exact ⟨a, cap, e⟩
    obtain ⟨b, off, rfl, hbW, hcs⟩ : ∃ b off, a = some ⟨b, off, none⟩ ∧ b < W.heap.size ∧ ∀ j u, x.enc[j]? = some u → W.cell? ⟨b, off + k * 5 + j, none⟩ = some u := by
      obtain ⟨a', c', e, _, _, _, h5⟩ := h
      cases e
      rcases h5 with h5 | ⟨b, off, h1, h2, h3⟩
      · rw [h5] at hkl; simp at hkl
      · exact ⟨b, off, h1, h2, fun j u hu => h3 k hkl j u (by rw [hx]; exact hu)⟩
    have HCS := hid hcs
    clear h ha hps hk hx hxm hcs HF
    clear hix
    go_enter Try.func12, Try.ntmps12
    go_wp2_with fail
    refine (HF1.out _ (((Below.refl _ W).alloc (Nat.le_refl _) _).alloc (by simp) _)).mono ?_
    rintro e w1 ⟨rfl, hb1⟩
    have HR1 : Hid (Blk w1 (W.heap.size + 1) #[.int .u64 0, .int .u64 0, .slice none 0 0, .bool false, .bool false] 34) := hid ((Blk.new' _ _ _ (by simp)).later hb1)
    have HB1 : Hid (Below W.heap.size W w1) := hid ((((Below.refl _ W).alloc (Nat.le_refl _) _).alloc (by simp) _).trans (hb1.mono (by simp; omega)))
    have hs1 : W.heap.size ≤ w1.heap.size := HB1.out.size
    have hbw1 : b < w1.heap.size := by omega
    obtain ⟨c0, c1, c2, c3, c4⟩ := Kq.cells (fun j u hu => (HB1.out.cell (p := ⟨b, off + k * 5 + j, none⟩) hbW).trans (HCS.out j u hu))
    clear hb1 HF1
    have i1 : (0 : Int) ≤ (k : Int) := by omega
    have i2 : (k : Int) < (l.length : Int) := by omega
    have HR2 := HR1
    obtain ⟨y0, y1, y2, y3, y4, yf⟩ := blk5 HR2.out
    have hg2 := HR2.out.lt
    have HFIN : Hid (∀ w3, Only [W.heap.size + 1] w1 w3 → GetQ W l hi lo (.tuple #[.agg #[.int .u64 x.hi, .int .u64 x.lo, .slice x.pa x.sp.length x.pcap, .bool x.spilled, .bool x.clash], .bool true]) w3) := hid (fun w3 ho => by
      have hb3 := HB1.out.trans (ho.below HB1.out.size (fun b hb => by simp at hb; omega))
      exact ⟨x, by rw [HAS.out]; rfl, by rw [HGET.out], hb3, ((HXA.out).below hb3 (fun _ h => h)).imp (fun b hb => Nat.lt_of_lt_of_le hb hb3.size)⟩)
    have hne : ¬ b = W.heap.size + 1 := by omega
    clear HR1
    go_wp2_with fail
    refine bodyPost_ret (by simp [results, Try.results12, go_sem, y0, y1, y2, y3, y4]; try rfl) rfl ?_
    refine ⟨_, rfl, HFIN.out _ ?_⟩
    iterate 5 (refine Only.setCell ?_ (by simp) _)
    exact Only.refl _ _
  · have HF1 := hid (HF.out (-1) (atK_neg hix))
    have HAS : Hid (Kp.has (l.map Kq.core) hi lo = false) := hid (decide_eq_false (by rw [List.length_map]; exact hix))
    have HGET : Hid (Kp.get (l.map Kq.core) hi lo = Kp.zero) := hid (by
      unfold Kp.get
      rw [dif_neg (show ¬ ix (l.map Kq.core) hi lo < (l.map Kq.core).length by rw [List.length_map]; exact hix)])
    clear h ha hps hix HF
    go_enter Try.func12, Try.ntmps12
    go_wp2_with fail
    refine (HF1.out _ (((Below.refl _ W).alloc (Nat.le_refl _) _).alloc (by simp) _)).mono ?_
    rintro e w1 ⟨rfl, hb1⟩
    have HR1 : Hid (Blk w1 (W.heap.size + 1) #[.int .u64 0, .int .u64 0, .slice none 0 0, .bool false, .bool false] 34) := hid ((Blk.new' _ _ _ (by simp)).later hb1)
    have HB1 : Hid (Below W.heap.size W w1) := hid ((((Below.refl _ W).alloc (Nat.le_refl _) _).alloc (by simp) _).trans (hb1.mono (by simp; omega)))
    have hs1 : W.heap.size ≤ w1.heap.size := HB1.out.size
    obtain ⟨y0, y1, y2, y3, y4, yf⟩ := blk5 HR1.out
    have hg2 := HR1.out.lt
    have HFIN : Hid (∀ w3, Only [W.heap.size + 1] w1 w3 → GetQ W l hi lo (.tuple #[.agg #[.int .u64 0, .int .u64 0, .slice none 0 0, .bool false, .bool false], .bool false]) w3) := hid (fun w3 ho => by
      have hb3 := HB1.out.trans (ho.below HB1.out.size (fun b hb => by simp at hb; omega))
      exact ⟨⟨0, 0, none, 0, [], false, false⟩, by rw [HAS.out]; rfl, by rw [HGET.out]; rfl, hb3, RowsOf.nil _ _ _ _⟩)
    clear hb1 HF1
    go_wp2_with fail
    refine bodyPost_ret (by simp [results, Try.results12, go_sem, y0, y1, y2, y3, y4]; try rfl) rfl ?_
    refine ⟨_, rfl, HFIN.out _ ?_⟩
    iterate 5 (refine Only.setCell ?_ (by simp) _)
    exact Only.refl _ _
end C30
end Go.Proofs.Ytdamnbldimompaa
