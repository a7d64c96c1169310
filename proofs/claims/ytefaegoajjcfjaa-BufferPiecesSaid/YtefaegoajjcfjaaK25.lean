/- Walks of layer 25 (buffer): the law on spans taken in two pieces; no condition. -/
import Derived.Test.YtefaegoajjcfjaaJ25
namespace Go.Proofs.Ytefaegoajjcfjaa
open Go.RowKit Go.Peri
namespace C25

theorem pair_put1v {B U g1 g2 room : Nat} {p q : List Sp × Int} (s : Sp) (w : World) (r : Bool) (h : Pair B U g1 g2 room p q w) (hr : decide (p.1.length < room) = r) :
    Calls Try.prog 53 #[.pointer (some ⟨g1, 0, none⟩), .agg #[.int .u64 s.hi, .int .u64 s.lo, .int .u64 s.id, .int .u64 s.up, .string s.name, .int .i64 s.status, .int .i64 s.seq, .int .i64 s.kids, .bool s.shadow, .int .i64 s.start, .int .i64 s.stop]] w fun e w' => e = .returned (.bool r) ∧ Below B w w' ∧ ∃ U', Pair B U' g1 g2 room (putR room p s) q w' := by
  subst hr; exact pair_put1 s w h
theorem pair_put2v {B U g1 g2 room : Nat} {p q : List Sp × Int} (s : Sp) (w : World) (r : Bool) (h : Pair B U g1 g2 room p q w) (hr : decide (q.1.length < room) = r) :
    Calls Try.prog 53 #[.pointer (some ⟨g2, 0, none⟩), .agg #[.int .u64 s.hi, .int .u64 s.lo, .int .u64 s.id, .int .u64 s.up, .string s.name, .int .i64 s.status, .int .i64 s.seq, .int .i64 s.kids, .bool s.shadow, .int .i64 s.start, .int .i64 s.stop]] w fun e w' => e = .returned (.bool r) ∧ Below B w w' ∧ ∃ U', Pair B U' g1 g2 room p (putR room q s) w' := by
  subst hr; exact pair_put2 s w h

set_option maxRecDepth 100000 in
set_option maxHeartbeats 1000000 in
theorem pieces_good (room : Int) (v : Value) (l : List Sp) (m n : Int) (W : World) (h : RowsOf (· < W.heap.size) Sp.enc 11 W v l) (hl : l.length ≤ 200) (hm0 : 0 ≤ m) (hm1 : m ≤ 1000) (hn0 : 0 ≤ n) (hn1 : n ≤ 1000) :
    Calls Try.prog 14 #[.int .i64 room, v, .agg #[.int .i64 m, .int .i64 n]] W fun e w' => e = .returned (.bool true) ∧ Below W.heap.size W w' := by
  obtain ⟨a, cap, rfl, hlc, hcm, _, hcell⟩ := h
  have HC := hid hcell
  have h1' : ¬ (200 : Int) < (l.length : Int) := by omega
  have h2' : ¬ m < 0 := by omega
  have h3' : ¬ 1000 < m := by omega
  have h4' : ¬ n < 0 := by omega
  have h5' : ¬ 1000 < n := by omega
  clear hcell hcm
  go_enter Try.func14, Try.ntmps14
  go_wp2_with fail
  refine (new_any room _).mono ?_
  rintro e w1 ⟨rfl, hb1, hs1, hB1⟩
  have hsz : (W.alloc (.cells #[.int .i64 m, .int .i64 n] 91)).heap.size = W.heap.size + 1 := by simp
  rw [hsz] at hs1 hB1
  have HK1 : Hid (Blk w1 W.heap.size #[.int .i64 m, .int .i64 n] 91) := (Blk.new W _ 91).later hb1
  have HB1 : Hid (Below W.heap.size W w1) := ((Below.refl _ W).alloc (Nat.le_refl _) _).trans (hb1.mono (by simp))
  have HBuf1 := hid hB1
  clear hb1 hB1
  go_wp2_with fail
  refine (new_any room _).mono ?_
  rintro e w2 ⟨rfl, hb2, hs2, hB2⟩
  rw [hs1] at hB2 hs2
  have HK2 := hid (HK1.out.later hb2)
  have HB2 := hid (HB1.out.trans (hb2.mono HB1.out.size))
  have HP0 : Hid (Pair (W.heap.size + 1) w2.heap.size (W.heap.size + 1) (W.heap.size + 1 + 1) (roomR room) ([], 0) ([], 0) w2) := by
    refine ⟨none, none, HBuf1.out.later hb2, hB2, ?_, ?_, Nat.le_refl _⟩
    · intro k hk hk2; simp [own] at hk hk2; omega
    · intro k hk; simp [own] at hk; omega
  obtain ⟨rm, hrm⟩ : ∃ r, r = roomR room := ⟨_, rfl⟩
  rw [← hrm] at HP0
  have HRM : Hid (rm ≤ 64) := by show _ ≤ _; rw [hrm]; unfold roomR; omega
  clear hb2 hB2 hrm HBuf1
  go_wp2_with fail
  go_loopw [9] (fun i wr => ∃ k : Nat, k ≤ l.length ∧ i = .int .i64 k ∧ Below W.heap.size W wr ∧ Blk wr W.heap.size #[.int .i64 m, .int .i64 n] 91 ∧ ∃ U, Pair (W.heap.size + 1) U (W.heap.size + 1) (W.heap.size + 1 + 1) rm (putsR rm (l.take k)) (putsR rm (l.take k)) wr) (fun i _ => l.length - (intOf i).toNat)
  case atStart => exact ⟨0, Nat.zero_le _, rfl, HB2.out, HK2.out, _, by rw [List.take_zero]; exact HP0.out⟩
  case round =>
    obtain ⟨k, hk, rfl, hb, hkk, U, hp⟩ := hrel
    have HB := hid hb
    have HKK := hid hkk
    have HP : Hid (Pair (W.heap.size + 1) U (W.heap.size + 1) (W.heap.size + 1 + 1) rm (putsR rm (l.take k)) (putsR rm (l.take k)) wr.drew) := hp
    have HP' := hid hp
    have hws : W.heap.size + 1 ≤ wr.heap.size := hkk.lt
    clear hb hkk hp
    by_cases hlt : k < l.length
    · obtain ⟨b, off, rfl, hpb, hc⟩ := HC.out.resolve_left (by intro e; rw [e] at hlt; simp at hlt)
      obtain ⟨c0, c1, c2, c3, c4, c5, c6, c7, c8, c9, c10⟩ := sp_cells (fun j u hu => (HB.out.cell (p := ⟨b, off + k * 11 + j, none⟩) hpb).trans (hc k hlt j u hu))
      have HS : Hid (putsR rm (l.take (k + 1)) = putR rm (putsR rm (l.take k)) l[k]) := by
        show _ = _
        rw [List.take_succ_eq_append_getElem hlt, putsR_snoc]
      have HEQ := hid (rfl : l.take k = l.take k)
      generalize l[k] = y at c0 c1 c2 c3 c4 c5 c6 c7 c8 c9 c10 HS
      have KEEP : Hid (∀ w', Below (W.heap.size + 1) wr w' → w'.cell? ⟨b, off + k * 11, none⟩ = some (.int .u64 y.hi) ∧ w'.cell? ⟨b, off + k * 11 + 1, none⟩ = some (.int .u64 y.lo) ∧ w'.cell? ⟨b, off + k * 11 + 2, none⟩ = some (.int .u64 y.id) ∧ w'.cell? ⟨b, off + k * 11 + 3, none⟩ = some (.int .u64 y.up) ∧ w'.cell? ⟨b, off + k * 11 + 4, none⟩ = some (.string y.name) ∧ w'.cell? ⟨b, off + k * 11 + 5, none⟩ = some (.int .i64 y.status) ∧ w'.cell? ⟨b, off + k * 11 + 6, none⟩ = some (.int .i64 y.seq) ∧ w'.cell? ⟨b, off + k * 11 + 7, none⟩ = some (.int .i64 y.kids) ∧ w'.cell? ⟨b, off + k * 11 + 8, none⟩ = some (.bool y.shadow) ∧ w'.cell? ⟨b, off + k * 11 + 9, none⟩ = some (.int .i64 y.start) ∧ w'.cell? ⟨b, off + k * 11 + 10, none⟩ = some (.int .i64 y.stop)) := by
        intro w' hw
        have hbb : b < W.heap.size + 1 := by omega
        exact ⟨(hw.cell hbb).trans c0, (hw.cell hbb).trans c1, (hw.cell hbb).trans c2, (hw.cell hbb).trans c3, (hw.cell hbb).trans c4, (hw.cell hbb).trans c5, (hw.cell hbb).trans c6, (hw.cell hbb).trans c7, (hw.cell hbb).trans c8, (hw.cell hbb).trans c9, (hw.cell hbb).trans c10⟩
      obtain ⟨st, hst⟩ : ∃ st, st = putsR rm (l.take k) := ⟨_, rfl⟩
      have HST := hid hst
      rw [← hst] at HP HS
      obtain ⟨br, hbr⟩ : ∃ br, decide (st.1.length < rm) = br := ⟨_, rfl⟩
      have HBR := hid hbr
      clear hc HP' hbr hst
      go_wp2_with fail
      go_region_held3 (fun w' => w'.cell? ⟨b, off + k * 11, none⟩ = some (.int .u64 y.hi) ∧ w'.cell? ⟨b, off + k * 11 + 1, none⟩ = some (.int .u64 y.lo) ∧ w'.cell? ⟨b, off + k * 11 + 2, none⟩ = some (.int .u64 y.id) ∧ w'.cell? ⟨b, off + k * 11 + 3, none⟩ = some (.int .u64 y.up) ∧ w'.cell? ⟨b, off + k * 11 + 4, none⟩ = some (.string y.name) ∧ w'.cell? ⟨b, off + k * 11 + 5, none⟩ = some (.int .i64 y.status) ∧ w'.cell? ⟨b, off + k * 11 + 6, none⟩ = some (.int .i64 y.seq) ∧ w'.cell? ⟨b, off + k * 11 + 7, none⟩ = some (.int .i64 y.kids) ∧ w'.cell? ⟨b, off + k * 11 + 8, none⟩ = some (.bool y.shadow) ∧ w'.cell? ⟨b, off + k * 11 + 9, none⟩ = some (.int .i64 y.start) ∧ w'.cell? ⟨b, off + k * 11 + 10, none⟩ = some (.int .i64 y.stop))
        (first
          | (have hq2 := hbel2; exact KEEP.out _ ((drewL hbel1).trans hq2))
          | exact KEEP.out _ (drewL hbel1)
          | exact KEEP.out _ (Below.refl _ _).drew)
        ((first
          | (go_at_call 53; have hq := hp1; refine (pair_put2v y _ br hq HBR.out).mono ?_; rintro e2 w4 ⟨rfl, hbel2, U4, hp2⟩)
          | (go_at_call 53; refine (pair_put1v y _ br HP.out HBR.out).mono ?_; clear HP; rintro e1 w3 ⟨rfl, hbel1, U3, hp1⟩)))
      have HB4 : Hid (Below W.heap.size W w4) := HB.out.trans ((drewL (hbel1.trans hbel2)).mono (Nat.le_succ _))
      have HK4 : Hid (Blk w4 W.heap.size #[.int .i64 m, .int .i64 n] 91) := HKK.out.below (drewL (hbel1.trans hbel2)) (Nat.lt_succ_self _)
      have HP4 : Hid (∃ U, Pair (W.heap.size + 1) U (W.heap.size + 1) (W.heap.size + 1 + 1) rm (putsR rm (l.take (k + 1))) (putsR rm (l.take (k + 1))) w4) := by
        refine ⟨U4, ?_⟩
        rw [HS.out]
        exact hp2
      clear hp1 hp2 hq hbel1 hbel2 KEEP c0 c1 c2 c3 c4 c5 c6 c7 c8 c9 c10
      go_wp2_with fail
      go_roundw
      case rel => exact ⟨k + 1, by omega, by go_num, HB4.out, HK4.out, HP4.out⟩
      case measure => simp [intOf]; omega
    · obtain rfl : k = l.length := by omega
      have kc0 : wr.cell? ⟨W.heap.size, 0, none⟩ = some (.int .i64 m) := HKK.out.cell 0
      have HP1 : Hid (Pair (W.heap.size + 1) U (W.heap.size + 1) (W.heap.size + 1 + 1) rm (putsR rm l) (putsR rm l) wr) := by have := HP'.out; rwa [List.take_length] at this
      obtain ⟨st, hst⟩ : ∃ st, st = putsR rm l := ⟨_, rfl⟩
      rw [← hst] at HP1
      have HLEN : Hid (st.1.length ≤ 64) := by show _ ≤ _; rw [hst]; exact Nat.le_trans (putsR_len rm l) HRM.out
      clear HP HP' hst
      have hUw : U ≤ wr.heap.size := by obtain ⟨_, _, _, _, _, _, e⟩ := HP1.out; exact e
      obtain ⟨j1, hj1⟩ : ∃ j, takeN m st.1 = j := ⟨_, rfl⟩
      have HJ1 := hid hj1
      clear hj1
      go_wp2_with fail
      refine (pair_take1 m j1 _ HP1.out HJ1.out).mono ?_
      rintro e w3 ⟨a3, cap3, rfl, hbel3, hp3, hown3, S3, ho3, hS3⟩
      have HB3 : Hid (Below W.heap.size W w3) := HB.out.trans (hbel3.mono (Nat.le_succ _))
      have HK3 := hid (HKK.out.below hbel3 (Nat.lt_succ_self _))
      have kd1 : w3.cell? ⟨W.heap.size, 1, none⟩ = some (.int .i64 n) := HK3.out.cell 1
      have HP3 := hid hp3
      have hs3 := ho3.size
      clear hbel3 hp3 ho3 hS3 kc0
      obtain ⟨j2, hj2⟩ : ∃ j, takeN n (st.1.drop j1) = j := ⟨_, rfl⟩
      have HJ2 := hid hj2
      clear hj2
      obtain ⟨x1, hx1⟩ : ∃ x, x = st.1.take j1 := ⟨_, rfl⟩
      rw [← hx1] at hown3 ⊢
      have HX1 := hid hx1
      clear hx1
      go_wp2_with fail
      refine (pair_take1 n j2 _ HP3.out HJ2.out).mono ?_
      rintro e w4 ⟨a4, cap4, rfl, hbel4, hp4, hown4, S4, ho4, hS4⟩
      have HB4 : Hid (Below W.heap.size W w4) := HB3.out.trans (hbel4.mono (Nat.le_succ _))
      have HK4 := hid (HK3.out.below hbel4 (Nat.lt_succ_self _))
      have HP4 := hid hp4
      have HO4 : Hid (w4.ownsRow wr.heap.size 79 11 (.slice a3 x1.length cap3) x1.length (x1.flatMap Sp.enc)) := owns_only hown3.out ho4 (fun k hk => Nat.lt_of_lt_of_le (hS4 k hk) hUw)
      have hs4 := ho4.size
      clear hbel4 hp4 ho4 hS4 hown3
      obtain ⟨x2, hx2⟩ : ∃ x, x = ((st.1.drop j1).take j2) := ⟨_, rfl⟩
      have hown4' : Hid (w4.ownsRow w3.heap.size 79 11 (.slice a4 x2.length cap4) x2.length (x2.flatMap Sp.enc)) := by rw [hx2]; exact hown4.out
      have hx2' : ((st.1.drop j1, st.2) : List Sp × Int).1.take j2 = x2 := hx2.symm
      rw [hx2']
      have HX2 := hid hx2
      have HC4 : Hid (Cellz (fun b => w3.heap.size ≤ b ∧ b < w4.heap.size) 11 w4 (.slice a4 x2.length cap4) x2.length (x2.flatMap Sp.enc)) := Cellz.of_owns hown4'.out
      have hlx : x1.length + x2.length ≤ 64 := by
        rw [HX1.out, HX2.out]; have := HLEN.out; simp only [List.length_take, List.length_drop]; omega
      clear hx2 hx2' hown4 hown4'
      go_wp2_with (at_builtin; refine wpList_pushCells elem71 rfl _ _ rfl wr.heap.size _ _ _ rfl HO4.out rfl HC4.out (one_sp x2) ?_ ?_ ?_ ?_)
      · unfold maxLen; omega
      · omega
      · omega
      intro v5 w5 hown5 hb5
      have HB5 : Hid (Below W.heap.size W w5) := HB4.out.trans (hb5.mono (by omega))
      have HK5 := hid (HK4.out.below hb5 (by omega))
      have HP5 := hid (HP4.out.below hb5 hUw)
      have hs5 := hb5.size
      have ke0 : w5.cell? ⟨W.heap.size, 0, none⟩ = some (.int .i64 m) := HK5.out.cell 0
      have ke1 : w5.cell? ⟨W.heap.size, 1, none⟩ = some (.int .i64 n) := HK5.out.cell 1
      obtain ⟨j3, hj3⟩ : ∃ j, takeN (m + n) st.1 = j := ⟨_, rfl⟩
      have hjj : j1 + j2 = j3 := by rw [← HJ2.out, ← HJ1.out, ← hj3]; exact takeN_two m n st.1 hm0 hn0
      obtain ⟨x3, hx3⟩ : ∃ x, st.1.take j3 = x := ⟨_, rfl⟩
      obtain ⟨pr, hpr⟩ : ∃ pr : List Sp × Int, pr = (st.1.drop j3, st.2) := ⟨_, rfl⟩
      have hxx : x1 ++ x2 = x3 := by rw [HX1.out, HX2.out, pieces_take, hjj, hx3]
      have hdd : (((st.1.drop j1).drop j2, st.2) : List Sp × Int) = pr := by rw [pieces_drop, hjj, hpr]
      have HX3 := hid hx3
      have HPR := hid hpr
      have HL3 : Hid (x3.length ≤ 1000000) := by show _ ≤ _; have := HLEN.out; rw [← hx3, List.length_take]; omega
      have HLP : Hid (pr.1.length ≤ 1000000) := by show _ ≤ _; have := HLEN.out; rw [hpr]; show (st.1.drop j3).length ≤ _; rw [List.length_drop]; omega
      have hR5 : RowsOf (fun b => wr.heap.size ≤ b ∧ b < w5.heap.size) Sp.enc 11 w5 v5 x3 := by
        refine RowsOf.of_owns (e := 79) Sp.enc_length ?_
        rw [← hxx]
        simpa using hown5
      have HR5 := hid hR5
      obtain ⟨a5, cap5, rfl, _⟩ := hR5
      have HP5' : Hid (Pair (W.heap.size + 1) U (W.heap.size + 1) (W.heap.size + 1 + 1) rm pr st w5) := by
        have := HP5.out; rw [← hdd]; exact this
      have HJ3 := hid hj3
      clear hown5 hb5 hj3 hxx hdd hx3 hpr hjj HP5 HC4 HO4 HX1 HX2 kd1
      go_wp2_with fail
      refine (pair_take2 (m + n) j3 _ HP5'.out HJ3.out).mono ?_
      rintro e w6 ⟨a6, cap6, rfl, hbel6, hp6, hown6, S6, ho6, hS6⟩
      have HB6 : Hid (Below W.heap.size W w6) := HB5.out.trans (hbel6.mono (Nat.le_succ _))
      have HP6 : Hid (Pair (W.heap.size + 1) U (W.heap.size + 1) (W.heap.size + 1 + 1) rm pr pr w6) := by have := hp6; rw [← HPR.out] at this; exact this
      have hown6' : Hid (w6.ownsRow w5.heap.size 79 11 (.slice a6 x3.length cap6) x3.length (x3.flatMap Sp.enc)) := by rw [← HX3.out]; exact hown6.out
      rw [HX3.out]
      have hs6 := ho6.size
      have HX6 : Hid (∃ p : Nat → Prop, (∀ b, p b → b < w6.heap.size) ∧ RowsOf p Sp.enc 11 w6 (.slice a5 x3.length cap5) x3) :=
        ⟨_, fun b hb => (by have := hb.2; omega), HR5.out.only ho6 (fun b hb => ⟨hb.2, fun hm => by have := hS6 b hm; omega⟩)⟩
      have HY6 : Hid (∃ p : Nat → Prop, (∀ b, p b → b < w6.heap.size) ∧ RowsOf p Sp.enc 11 w6 (.slice a6 x3.length cap6) x3) :=
        ⟨_, fun b hb => hb.2, RowsOf.of_owns Sp.enc_length hown6'.out⟩
      clear hbel6 hp6 hown6 hown6' ho6 hS6 HR5 ke0 ke1
      go_wp2_with fail
      refine (same_list _ _ x3 _ HX6.out HY6.out HL3.out).mono ?_
      rintro e w7 ⟨rfl, hb7⟩
      have HB7 := hid (HB6.out.trans (hb7.mono HB6.out.size))
      have HP7 := hid (HP6.out.below hb7 (by omega))
      have hs7 := hb7.size
      clear hb7 HX6 HY6
      go_wp2_with fail
      refine (pair_all1 _ HP7.out).mono ?_
      rintro e w8 ⟨a8, cap8, rfl, hb8, hr8, hp8⟩
      have HB8 := hid (HB7.out.trans (hb8.mono HB7.out.size))
      have HP8 := hid hp8
      have hs8 := hb8.size
      clear hb8 hp8
      go_wp2_with fail
      refine (pair_all2 _ HP8.out).mono ?_
      rintro e w9 ⟨a9, cap9, rfl, hb9, hr9, hp9⟩
      have HB9 := hid (HB8.out.trans (hb9.mono HB8.out.size))
      have hs9 := hb9.size
      have HX9 : Hid (∃ p : Nat → Prop, (∀ b, p b → b < w9.heap.size) ∧ RowsOf p Sp.enc 11 w9 (.slice a8 pr.1.length cap8) pr.1) :=
        ⟨_, fun b hb => (by have := hb.2; omega), hr8.out.below hb9 (fun b hb => hb.2)⟩
      have HY9 : Hid (∃ p : Nat → Prop, (∀ b, p b → b < w9.heap.size) ∧ RowsOf p Sp.enc 11 w9 (.slice a9 pr.1.length cap9) pr.1) :=
        ⟨_, fun b hb => hb.2, hr9.out⟩
      clear hb9 hp9 hr8 hr9
      go_wp2_with fail
      refine (same_list _ _ pr.1 _ HX9.out HY9.out HLP.out).mono ?_
      rintro e w10 ⟨rfl, hb10⟩
      have HB10 := hid (HB9.out.trans (hb10.mono HB9.out.size))
      clear hb10
      go_wp2_with fail
      refine (known_any _).mono ?_
      rintro e w11 ⟨rfl, hb11⟩
      have HB11 := hid (HB10.out.trans (hb11.mono HB10.out.size))
      clear hb11
      go_wp2_with fail
      go_ret
      exact ⟨rfl, HB11.out⟩
end C25
end Go.Proofs.Ytefaegoajjcfjaa
