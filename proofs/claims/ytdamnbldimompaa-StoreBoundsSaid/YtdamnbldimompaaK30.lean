/- Walks of layer 30 (store): a span more, of a trace that is not there; no condition. -/
import Derived.Test.YtdamnbldimompaaJ30
namespace Go.Peri
open Go.RowKit
namespace Gen
theorem rows_of_blk {α : Type} {enc : α → List Value} {k : Nat} (hk : ∀ x, (enc x).length = k) {w : World} {g t n : Nat} {l : List α} (h : Blk w g (l.flatMap enc).toArray t) (hn : l.length = n) (hm : n ≤ maxLen) : RowsOf (· = g) enc k w (.slice (some ⟨g, 0, none⟩) n n) l := by
  subst hn
  refine ⟨_, _, rfl, Nat.le_refl _, hm, by simp, .inr ⟨g, 0, rfl, rfl, fun i hi j u hu => ?_⟩⟩
  have hj : j < k := by have := (List.getElem?_eq_some_iff.1 hu).1; rw [hk] at this; exact this
  rw [h.cell, Nat.zero_add, List.getElem?_toArray, flat_get hk l i hi j hj]
  exact hu
end Gen
theorem Kp.room_eq (room : Int) (n : Nat) : max (0 : Int) (((n + 1 : Nat) : Int) - max 1 (min room 32)) = ((n + 1 - Kp.roomR room : Nat) : Int) := by
  unfold Kp.roomR
  omega
end Go.Peri
namespace Go.Proofs.Ytdamnbldimompaa
open Go.RowKit Go.Peri
open Gen (rows_of_blk flat_set set_mid get_mid map_take_snoc owns_at owns_num owns_le owns_below owns_form)
namespace C30
open Kp (ix ixS)
set_option maxRecDepth 100000 in
theorem kdelete_zero (a : Option Addr) (n cap : Nat) (w : World) (hn : n ≤ cap) :
    Calls Try.prog 25 #[.slice a n cap, .int .i64 0, .int .i64 0] w fun e w' => e = .returned (.slice a n cap) ∧ w = w' := by
  have k1 : (0 : Int) ≤ (n : Int) := by omega
  have k2 : (n : Int) ≤ (cap : Int) := by omega
  go_enter Try.func25, Try.ntmps25
  go_wp2
  go_ret
  exact ⟨rfl, rfl⟩
/-- What waits to be shortened: a row of one's own, the spans elsewhere. -/
structure Long (W : World) (base g cap : Nat) (l2 : List Kq) (w : World) : Prop where
  below : Below W.heap.size W w
  own : w.ownsRow base 34 5 (.slice (some ⟨g, 0, none⟩) l2.length cap) l2.length (l2.flatMap Kq.enc)
  far : ∀ x ∈ l2, x.At (fun b => b < w.heap.size ∧ b ≠ g) w
  ge : W.heap.size ≤ g
theorem Long.cut {W : World} {base g cap : Nat} {l2 : List Kq} {w : World} (h : Long W base g cap l2 w) (hl : l2.length ≤ 1000000) (j : Nat) (hj : j < l2.length) (kl : List Kp) (hk : kl = (l2.map Kq.core).drop j) :
    Calls Try.prog 25 #[.slice (some ⟨g, 0, none⟩) l2.length cap, .int .i64 0, .int .i64 j] w fun e w' => ∃ a n c, e = .returned (.slice a n c) ∧ Hid (AddR W kl a n c w') := by
  subst hk
  by_cases h0 : j = 0
  · subst h0
    have hcap : l2.length ≤ cap := by
      rcases h.own.2 with ⟨e, _⟩ | ⟨g', c', cur, e, _, _, hn, _⟩
      · cases e
      · cases e; exact hn
    refine Calls.mono (by simpa using kdelete_zero (some ⟨g, 0, none⟩) l2.length cap w hcap) ?_
    rintro e w' ⟨rfl, rfl⟩
    refine ⟨_, _, _, rfl, l2, rfl, by rw [List.drop_zero], h.below, RowsOf.imp (p := fun b => base ≤ b ∧ b < w.heap.size) (RowsOf.of_owns (e := 34) Kq.enc_length h.own) (fun b hb => hb.2), fun x hx => (h.far x hx).imp (fun b hb => hb.1)⟩
  · have hd := kdelete_any base g cap 0 j l2 w h.own (by omega) (by omega) hl
    refine Calls.mono (by simpa using hd) ?_
    rintro e w' ⟨v, rfl, rfl, ho, hown⟩
    have hlen : (l2.drop j).length = l2.length - j := List.length_drop
    try simp only [Nat.sub_zero] at hown
    refine ⟨_, _, _, rfl, l2.drop j, by simp, by rw [List.map_drop], h.below.trans (ho.below h.below.size (fun b hb => by rw [List.mem_singleton.1 hb]; exact h.ge)), ?_, fun x hx => ?_⟩
    · refine rows_len (by simp) (RowsOf.imp (p := fun b => base ≤ b ∧ b < w'.heap.size) (RowsOf.of_owns (e := 34) Kq.enc_length (by rw [hlen]; exact hown)) (fun b hb => hb.2))
    · exact ((h.far x (List.mem_of_mem_drop hx)).only ho (fun b hb => ⟨hb.1, by simp [hb.2]⟩)).imp (fun b hb => Nat.lt_of_lt_of_le hb.1 ho.size)
set_option maxRecDepth 100000 in
set_option maxHeartbeats 8000000 in
theorem add_miss (v : Value) (l : List Kq) (room : Int) (s : Sp) (W : World) (h : RowsOf (· < W.heap.size) Kq.enc 5 W v l) (hl : l.length ≤ 100000) (ha : ∀ x ∈ l, x.At (· < W.heap.size) W) (hps : ∀ x ∈ l, x.sp.length ≤ 1000000) (hix : ¬ ix (l.map Kq.core) s.hi s.lo < l.length) :
    Calls Try.prog 9 #[v, .int .i64 room, .agg #[.int .u64 s.hi, .int .u64 s.lo, .int .u64 s.id, .int .u64 s.up, .string s.name, .int .i64 s.status, .int .i64 s.seq, .int .i64 s.kids, .bool s.shadow, .int .i64 s.start, .int .i64 s.stop]] W (Ret (AddQ W (Kp.add (l.map Kq.core) room s) (l.length + 1 - Kp.roomR room))) := by
  obtain ⟨W0, hW0⟩ : ∃ b, b = W.alloc (.cells #[.int .u64 s.hi, .int .u64 s.lo, .int .u64 s.id, .int .u64 s.up, .string s.name, .int .i64 s.status, .int .i64 s.seq, .int .i64 s.kids, .bool s.shadow, .int .i64 s.start, .int .i64 s.stop] 27) := ⟨_, rfl⟩
  have hb0 : Below W.heap.size W W0 := by rw [hW0]; go_grown
  have hk0 : Blk W0 W.heap.size #[.int .u64 s.hi, .int .u64 s.lo, .int .u64 s.id, .int .u64 s.up, .string s.name, .int .i64 s.status, .int .i64 s.seq, .int .i64 s.kids, .bool s.shadow, .int .i64 s.start, .int .i64 s.stop] 27 := by rw [hW0]; exact Blk.new _ _ _
  have hs0 : W0.heap.size = W.heap.size + 1 := by rw [hW0]; simp
  have HC := hid (copied_any (p := (· < W.heap.size)) v l W0 (h.below hb0 (fun _ h => h)) (fun b hb => by omega) (by omega) (fun x hx => ((ha x hx).below hb0 (fun _ h => h)).imp (fun b hb => by omega)) hps)
  have HB0 := hid hb0
  have HK0 := hid hk0
  have HS0 := hid hs0
  obtain ⟨a, cap, rfl⟩ : ∃ a cap, v = .slice a l.length cap := by
    obtain ⟨a, cap, e, _⟩ := h
    exact ⟨a, cap, e⟩
  have HKL : Hid (Kp.add (l.map Kq.core) room s = (l.map Kq.core ++ [Kp.fresh s]).drop (l.length + 1 - Kp.roomR room)) := hid (by
    unfold Kp.add
    rw [dif_neg (show ¬ ix (l.map Kq.core) s.hi s.lo < (l.map Kq.core).length by rw [List.length_map]; exact hix), List.length_map])
  have HIX := hid hix
  rw [hW0] at HC
  have HW0 := hid hW0
  clear h ha hps hb0 hk0 hs0 hW0 hix
  go_enter Try.func9, Try.ntmps9
  go_wp2_with fail
  refine HC.out.mono ?_
  rw [← HW0.out]
  rintro e w1 ⟨v1, rfl, l1, hc1, hb1, hown, hcop⟩
  have hl1 : l1.length = l.length := by
    have := congrArg List.length hc1
    simpa using this
  obtain ⟨a1, cap1, rfl⟩ := owns_form hown
  have hat : atK l1 s.hi s.lo = -1 := by unfold atK; rw [if_neg (by rw [hc1, hl1]; exact HIX.out)]
  have HK1 := hid (HK0.out.later hb1)
  have HF := hid (find_any (p := fun b => W0.heap.size ≤ b ∧ b < w1.heap.size) (.slice a1 l.length cap1) l1 s.hi s.lo (-1) w1 (rows_len hl1 (RowsOf.of_owns (e := 34) Kq.enc_length (by rw [hl1]; exact hown))) (fun b hb => hb.2) (by omega) hat)
  have HB1 := hid (HB0.out.trans (hb1.mono HB0.out.size))
  have HOW := hid hown
  have HCP := hid hcop
  have HC1 := hid hc1
  have HL1 := hid hl1
  have hws1 : W0.heap.size ≤ w1.heap.size := hb1.size
  clear hb1 hown hcop HC HK0 hc1 hl1 hat
  have z0 : w1.cell? ⟨W.heap.size, 0, none⟩ = some (.int .u64 s.hi) := HK1.out.cell 0
  have z1 : w1.cell? ⟨W.heap.size, 1, none⟩ = some (.int .u64 s.lo) := HK1.out.cell 1
  have hWl := HK1.out.lt
  go_wp2_with fail
  refine HF.out.mono ?_
  rintro e w2 ⟨rfl, hb2⟩
  have HK2 := hid (HK1.out.later hb2)
  have HB2 := hid hb2
  clear hb2 z0 z1
  obtain ⟨y0, y1, y2, y3, y4, y5, y6, y7, y8, y9, y10, -⟩ := blk11 HK2.out
  have hWl2 := HK2.out.lt
  have hws2 : w1.heap.size ≤ w2.heap.size := HB2.out.size
  have HO2 : Hid ((w2.alloc (.cells #[.int .u64 s.hi, .int .u64 s.lo, .int .u64 s.id, .int .u64 s.up, .string s.name, .int .i64 s.status, .int .i64 s.seq, .int .i64 s.kids, .bool s.shadow, .int .i64 s.start, .int .i64 s.stop] 27)).ownsRow W0.heap.size 34 5 (.slice a1 l.length cap1) l.length (l1.flatMap Kq.enc)) := hid ((owns_below HOW.out HB2.out).alloc _)
  clear HF
  go_wp2_with (at_builtin; refine wpList_push_at elemK rfl _ _ rfl W0.heap.size _ _ _ [.int .u64 s.hi, .int .u64 s.lo, .slice (some ⟨w2.heap.size, 0, none⟩) 1 1, .bool false, .bool false] rfl HO2.out rfl (by simp [Act.eval, Act.put]) rfl (by simp [Value.oneCell']) ?_ ?_ ?_ ?_)
  · unfold maxLen; omega
  · omega
  · simp; omega
  intro v3 w3 hown3 honly3 hmv3
  obtain ⟨a3, cap3, rfl⟩ := owns_form hown3
  obtain ⟨g3, c3, e3, hg3, hg3l⟩ := owns_at hown3 (by omega)
  cases e3
  have HLONG : Hid (∃ l2 : List Kq, l2.length = l.length + 1 ∧ l2.map Kq.core = l.map Kq.core ++ [Kp.fresh s] ∧ Long W W0.heap.size g3 cap3 l2 w3) := hid (by
    obtain ⟨y, hy⟩ : ∃ y : Kq, y = ⟨s.hi, s.lo, some ⟨w2.heap.size, 0, none⟩, 1, [s], false, false⟩ := ⟨_, rfl⟩
    have hl2 : (l1 ++ [y]).length = l.length + 1 := by rw [List.length_append, HL1.out]; rfl
    have hbl1 : ∀ b, b ∈ blocks (.slice a1 l.length cap1) → W0.heap.size ≤ b ∧ b < w2.heap.size := fun b hb => owns_bd (owns_below HOW.out HB2.out) b hb
    have hg3' : g3 ∈ blocks (.slice a1 l.length cap1) ∨ w2.heap.size + 1 ≤ g3 := by
      have := hmv3 g3 (by simp [blocks, Value.ownBlock])
      simpa using this
    refine ⟨l1 ++ [y], hl2, by rw [List.map_append, HC1.out, hy]; rfl, ⟨?_, ?_, fun x hx => ?_, ?_⟩⟩
    · have h1 : Below W.heap.size W (w2.alloc (.cells #[.int .u64 s.hi, .int .u64 s.lo, .int .u64 s.id, .int .u64 s.up, .string s.name, .int .i64 s.status, .int .i64 s.seq, .int .i64 s.kids, .bool s.shadow, .int .i64 s.start, .int .i64 s.stop] 27)) := (HB1.out.trans (HB2.out.mono HB1.out.size)).alloc (by omega) _
      exact h1.trans (honly3.below h1.size (fun b hb => by have := (hbl1 b hb).1; have := HS0.out; omega))
    · rw [hl2]
      have e2 : (l1 ++ [y]).flatMap Kq.enc = l1.flatMap Kq.enc ++ [.int .u64 s.hi, .int .u64 s.lo, .slice (some ⟨w2.heap.size, 0, none⟩) 1 1, .bool false, .bool false] := by rw [hy]; simp [Kq.enc]
      rw [e2]
      exact hown3
    · have hsz3 : w2.heap.size + 1 ≤ w3.heap.size := by have := honly3.size; simpa using this
      rcases List.mem_append.1 hx with hx | hx
      · have hox := owns_below (HCP.out.own x hx) HB2.out
        have hbx := fun b (hb : b ∈ kBlk x) => owns_bd hox b hb
        have hfar := HCP.out.far x hx
        have hox3 : OwnK W0.heap.size w3 x := owns_keep (hox.alloc _) honly3 hfar
        have hr := RowsOf.of_owns (e := 27) Sp.enc_length hox3
        have hr2 := hr
        obtain ⟨ax, cx, ex, q1, q2, q3, q4⟩ := hr
        refine ⟨ax, cx, ex, q1, q2, q3, q4.imp id ?_⟩
        rintro ⟨b, off, e9, hb9, hc9⟩
        refine ⟨b, off, e9, ⟨hb9.2, ?_⟩, hc9⟩
        rintro rfl
        have hbm : b ∈ kBlk x := by
          unfold kBlk blocks
          rw [ex, e9]
          simp [Value.ownBlock]
        rcases hg3' with h9 | h9
        · exact hfar b hbm h9
        · have := (hbx b hbm).2; omega
      · obtain rfl : x = y := List.mem_singleton.1 hx
        subst hy
        have hk : Blk w3 w2.heap.size #[.int .u64 s.hi, .int .u64 s.lo, .int .u64 s.id, .int .u64 s.up, .string s.name, .int .i64 s.status, .int .i64 s.seq, .int .i64 s.kids, .bool s.shadow, .int .i64 s.start, .int .i64 s.stop] 27 := (Blk.new w2 _ _).only honly3 (fun hm => by have := (hbl1 _ hm).2; omega)
        refine (rows_of_blk (l := [s]) (enc := Sp.enc) (k := 11) (fun _ => rfl) hk rfl (by show 1 ≤ maxLen; decide)).imp (fun b hb => ?_)
        subst hb
        refine ⟨by omega, fun e => ?_⟩
        rcases hg3' with h9 | h9
        · have := (hbl1 g3 h9).2; omega
        · omega
    · have := HS0.out; omega)
  clear y0 y1 y2 y3 y4 y5 y6 y7 y8 y9 y10 hown3 honly3 hmv3 HO2 HOW HCP HC1 HK1 HK2
  have hr := Kp.room_eq room l.length
  obtain ⟨gn, hgn⟩ : ∃ gn, l.length + 1 - Kp.roomR room = gn := ⟨_, rfl⟩
  rw [hgn] at hr HKL ⊢
  have hgl : gn < l.length + 1 := by have := Kp.room_lo room; omega
  have hw7 : IntKind.i64.wrap (((l.length + 1 : Nat) : Int) - max 1 (min room 32)) = ((l.length + 1 : Nat) : Int) - max 1 (min room 32) := by rw [IntKind.wrap_i64]; omega
  have HDEL := hid (by
    obtain ⟨l2, e1, e2, h2⟩ := HLONG.out
    have := h2.cut (by omega) gn (by omega) (Kp.add (l.map Kq.core) room s) (by rw [HKL.out, e2])
    rw [e1] at this
    exact this)
  have hr' : max (0 : Int) ((l.length : Int) + 1 - max 1 (min room 32)) = (gn : Int) := by rw [← hr]; simp
  have HGN := hid hgn
  clear HLONG hgn HKL HL1 hr
  go_wp2_with fail
  refine HDEL.out.mono ?_
  rintro e w4 ⟨a4, n4, c4, rfl, hr4⟩
  have HR := hid hr'
  clear hr' hw7 HDEL
  go_wp2_with fail
  go_ret2
  exact ⟨_, rfl, a4, n4, c4, by rw [HGN.out, ← HR.out]; rfl, hr4.out⟩
theorem gone_hit {l : List Kq} {room : Int} {s : Sp} (h : ix (l.map Kq.core) s.hi s.lo < l.length) : Kp.gone (l.map Kq.core) room s = 0 := by
  unfold Kp.gone Kp.has
  rw [List.length_map, decide_eq_true h]
  rfl
theorem gone_miss {l : List Kq} {room : Int} {s : Sp} (h : ¬ ix (l.map Kq.core) s.hi s.lo < l.length) : Kp.gone (l.map Kq.core) room s = l.length + 1 - Kp.roomR room := by
  unfold Kp.gone Kp.has
  rw [List.length_map, decide_eq_false h]
  rfl
theorem add_any (v : Value) (l : List Kq) (room : Int) (s : Sp) (W : World) (h : RowsOf (· < W.heap.size) Kq.enc 5 W v l) (hl : l.length ≤ 100000) (ha : ∀ x ∈ l, x.At (· < W.heap.size) W) (hps : ∀ x ∈ l, x.sp.length ≤ 1000000) :
    Calls Try.prog 9 #[v, .int .i64 room, .agg #[.int .u64 s.hi, .int .u64 s.lo, .int .u64 s.id, .int .u64 s.up, .string s.name, .int .i64 s.status, .int .i64 s.seq, .int .i64 s.kids, .bool s.shadow, .int .i64 s.start, .int .i64 s.stop]] W (Ret (AddQ W (Kp.add (l.map Kq.core) room s) (Kp.gone (l.map Kq.core) room s))) := by
  by_cases hix : ix (l.map Kq.core) s.hi s.lo < l.length
  · rw [gone_hit hix]
    exact add_hit v l room s W h (by omega) ha hps hix
  · rw [gone_miss hix]
    exact add_miss v l room s W h hl ha hps hix
end C30
end Go.Proofs.Ytdamnbldimompaa
