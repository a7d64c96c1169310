/- Walks of layer 28 (net): lists of letters compared, cloned, shortened; no condition. -/
import Derived.Test.YthmopkaecbebpaaProg
import Derived.Test.YthmopkaecbebpaaP28
import Derived.Test.YthmopkaecbebpaaOw2
import Derived.StillTailTactics
import Derived.Laws.LoneSync
import Derived.Deep.RegionLaw
import Derived.Laws.IdiomCopy
import Derived.Lib.MinMax
namespace Go.Proofs.Ythmopkaecbebpaa
open Go.RowKit Go.Peri
namespace C28
theorem addr_add (b o j : Nat) : (⟨b, o, none⟩ : Addr).add j = ⟨b, o + j, none⟩ := by
  unfold Addr.add; split
  · rename_i hz; rw [hz]; rfl
  · rfl
theorem elemL : Elem Try.prog 50 62 4 40 := Elem.mk' (z := .agg #[.int .i64 0, .int .i64 0, .int .i64 0, .string ByteArray.empty]) Try.underlying50 (by kernel_rfl) rfl (by decide)
theorem eqLt (a b : Lt) (w : World) : (Op.equalIn 10000 62 (.agg #[.int .i64 a.no, .int .i64 a.from_, .int .i64 a.to, .string a.bytes]) (.agg #[.int .i64 b.no, .int .i64 b.from_, .int .i64 b.to, .string b.bytes])).run Try.prog w = .ok (decide (a = b)) w := by
  rw [show (10000 : Nat) = 9999 + 1 from rfl, run_equalIn_struct w 9999 62 _ _ (by kernel_rfl) (by kernel_rfl)]
  simp only [Program.fieldsOf, Try.underlying62, Op.eqFields]
  go_simp
  have inj_bytes : a.bytes.toList = b.bytes.toList → a.bytes = b.bytes := fun h => Go.WideShapes.bytes_inj (by rw [← ByteArray.toList_eq, ← ByteArray.toList_eq, h])
  have ext : a.no = b.no → a.from_ = b.from_ → a.to = b.to → a.bytes.toList = b.bytes.toList → a = b := by
    intro h0 h1 h2 h3
    have h3 := inj_bytes h3
    obtain ⟨⟩ := a
    obtain ⟨⟩ := b
    simp_all
  by_cases h : a = b
  · subst h; simp
  · rw [decide_eq_false h]
    repeat' (split <;> try rfl)
    exact absurd (ext (by assumption) (by assumption) (by assumption) (by assumption)) h
set_option maxRecDepth 100000 in
theorem same_any {p q : Nat → Prop} (u v : Value) (l m : List Lt) (r : Bool) (W : World) (h : RowsOf p Lt.enc 4 W u l) (hp : ∀ b, p b → b < W.heap.size) (h2 : RowsOf q Lt.enc 4 W v m) (hq : ∀ b, q b → b < W.heap.size) (hl : l.length ≤ 1000000000000) (hm : m.length ≤ 1000000000000)
    (hr : decide (l = m) = r) :
    Calls Try.prog 33 #[u, v] W fun e w' => e = .returned (.bool r) ∧ Below W.heap.size W w' := by
  obtain ⟨a, cap, rfl, hlc, hcm, _, hcell⟩ := h
  obtain ⟨a2, cap2, rfl, hlc2, hcm2, _, hcell2⟩ := h2
  have HP := hid hp
  have HQ := hid hq
  have HC := hid hcell
  have HC2 := hid hcell2
  have HR := hid hr
  clear hp hq hcell hcell2 hr
  by_cases hlen : l.length = m.length
  · have HLEN := hid hlen
    have hle2 : ((l.length : Int) == (m.length : Int)) = true := by simp [hlen]
    have hle3 : ((m.length : Int) == (m.length : Int)) = true := by simp
    generalize hn : l.length = n at hlen hlc hl HLEN hle2
    have HN := hid hn
    clear hn
    subst hlen
    go_enter Try.func33, Try.ntmps33
    go_wp2_with fail
    go_loopw [5] (fun i wr => ∃ k : Nat, k ≤ m.length ∧ i = .int .i64 k ∧ Below W.heap.size W wr ∧ ∀ j (_ : j < k) (h1 : j < l.length) (h2 : j < m.length), l[j] = m[j]) (fun i _ => m.length - (intOf i).toNat)
    case atStart => exact ⟨0, Nat.zero_le _, rfl, Below.refl _ _, fun j hj => absurd hj (Nat.not_lt_zero _)⟩
    case round =>
      obtain ⟨k, hk, rfl, hb, hno⟩ := hrel
      have HB := hid hb
      have HE := hid hno
      clear hb hno
      by_cases hlt : k < m.length
      · have hlt1 : k < l.length := by rw [HN.out]; exact hlt
        obtain ⟨b, off, rfl, hpb, hc⟩ := HC.out.resolve_left (by intro e; rw [e] at hlt1; simp at hlt1)
        obtain ⟨b2, off2, rfl, hpb2, hc2⟩ := HC2.out.resolve_left (by intro e; rw [e] at hlt; simp at hlt)
        have hbl : b < wr.heap.size := Nat.lt_of_lt_of_le (HP.out b hpb) HB.out.size
        have hbl2 : b2 < wr.heap.size := Nat.lt_of_lt_of_le (HQ.out b2 hpb2) HB.out.size
        obtain ⟨c0, c1, c2, c3⟩ := Lt.cells (fun j u hu => (HB.out.cell (p := ⟨b, off + k * 4 + j, none⟩) (HP.out b hpb)).trans (hc k hlt1 j u hu))
        obtain ⟨d0, d1, d2, d3⟩ := Lt.cells (fun j u hu => (HB.out.cell (p := ⟨b2, off2 + k * 4 + j, none⟩) (HQ.out b2 hpb2)).trans (hc2 k hlt j u hu))
        have HNext : Hid (l[k] = m[k] → ∀ j (_ : j < k + 1) (h1 : j < l.length) (h2 : j < m.length), l[j] = m[j]) := by
          intro he j hj h1 h2
          by_cases e : j = k
          · subst e; exact he
          · exact HE.out j (by omega) h1 h2
        have HHit : Hid (l[k] ≠ m[k] → l ≠ m) := fun hh e => hh (by subst e; rfl)
        clear hc hc2
        generalize l[k] = x at c0 c1 c2 c3 HNext HHit
        generalize m[k] = y at d0 d1 d2 d3 HNext HHit
        have hee := eqLt x y
        by_cases hxy : x = y
        · have HX := hid hxy
          rw [decide_eq_true hxy] at hee
          clear hxy
          go_wp2_with fail
          refine wp_region_bw (by kernel_rfl) (by kernel_rfl) ?_
          repeat (go_big_quiet_step (fail))
          refine wpQuiet_nil ?_
          rintro w2 ⟨⟨_, hb2⟩, rfl⟩
          have HB2 : Hid (Below W.heap.size W w2) := HB.out.trans (hb2.mono HB.out.size)
          clear hb2
          go_wp2_with fail
          go_roundw
          case rel => exact ⟨k + 1, by omega, by go_num, HB2.out, HNext.out HX.out⟩
          case measure => simp [intOf]; omega
        · have HX := hid hxy
          rw [decide_eq_false hxy] at hee
          clear hxy
          go_wp2_with fail
          refine wp_region_bw (by kernel_rfl) (by kernel_rfl) ?_
          repeat (go_big_quiet_step (fail))
          refine wpQuiet_nil ?_
          rintro w2 ⟨⟨_, hb2⟩, rfl⟩
          have HB2 : Hid (Below W.heap.size W w2) := HB.out.trans (hb2.mono HB.out.size)
          clear hb2
          go_wp2_with fail
          go_ret
          exact ⟨by rw [← HR.out, decide_eq_false (HHit.out HX.out)]; rfl, HB2.out⟩
      · obtain rfl : k = m.length := by omega
        go_wp2_with fail
        go_ret
        have : l = m := List.ext_getElem HN.out (fun j h1 h2 => HE.out j h2 h1 h2)
        exact ⟨by rw [← HR.out, decide_eq_true this]; rfl, HB.out⟩
  · have HL : Hid (l ≠ m) := fun e => hlen (by rw [e])
    have hle2 : ((l.length : Int) == (m.length : Int)) = false := by rw [beq_eq_false_iff_ne]; omega
    clear hlen
    go_enter Try.func33, Try.ntmps33
    go_wp2_with fail
    go_ret
    exact ⟨by rw [← HR.out, decide_eq_false HL.out]; rfl, Below.refl _ _⟩
set_option maxRecDepth 100000 in
theorem clone_any {p : Nat → Prop} (v : Value) (l : List Lt) (W : World) (h : RowsOf p Lt.enc 4 W v l) (hp : ∀ b, p b → b < W.heap.size) (hl : l.length ≤ 1000000) :
    Calls Try.prog 75 #[v] W fun e w' => ∃ a cap, e = .returned (.slice a l.length cap) ∧ Below W.heap.size W w' ∧ Hid (w'.ownsRow W.heap.size 62 4 (.slice a l.length cap) l.length (l.flatMap Lt.enc)) := by
  have qnil : ∀ (w : World) (a : Option Addr) (n c : Nat), (binOp .eql 50 (.slice a n c) (.slice none 0 0)).run Try.prog w = .ok (.bool a.isNone) w := fun w a n c => Lib.run_eql_slice_nil w 50 62 a n c 0 0 Try.underlying50
  have HV := hid h
  have HP := hid hp
  obtain ⟨a, cap, rfl, hlc, hcm, hnn, _⟩ := h
  clear hp
  cases a with
  | none =>
    have hc0 := hnn rfl
    subst hc0
    have hl0 : l.length = 0 := by omega
    have hln : l = [] := List.length_eq_zero_iff.1 hl0
    subst hln
    go_enter Try.func75, Try.ntmps75
    go_wp2_with fail
    go_ret
    exact ⟨none, 0, rfl, Below.refl _ _, World.ownsRow_nil _ _ _ _⟩
  | some ad =>
    have HC : Hid (Cellz p 4 (W.alloc (.cells #[] 62)) (.slice (some ad) l.length cap) l.length (l.flatMap Lt.enc)) := (HV.out.below (B := W.heap.size) ((Below.refl _ W).alloc (Nat.le_refl _) _) HP.out).cellz Lt.enc_length
    go_enter Try.func75, Try.ntmps75
    go_wp2_with (at_builtin; refine wpList_pushCells elemL rfl _ _ rfl W.heap.size _ 0 [] rfl (World.ownsRow_made W #[] 0 (Nat.le_refl _) (Nat.zero_le _) (by simp)) rfl HC.out (Lt.one l) ?_ ?_ ?_ ?_)
    · unfold maxLen; omega
    · omega
    · simp
    intro v1 w1 hown hb
    have HB : Hid (Below W.heap.size W w1) := ((Below.refl _ W).alloc (Nat.le_refl _) _).trans hb
    have hown2 : w1.ownsRow W.heap.size 62 4 v1 l.length (l.flatMap Lt.enc) := by simpa using hown
    have hr : RowsOf (fun b => W.heap.size ≤ b ∧ b < w1.heap.size) Lt.enc 4 w1 v1 l := RowsOf.of_owns Lt.enc_length hown2
    have HR := hid hown2
    clear hown2
    obtain ⟨a1, cap1, rfl, _⟩ := hr
    clear hown hb
    go_wp2_with fail
    go_ret
    exact ⟨a1, cap1, rfl, HB.out, HR.out⟩
theorem Delcells (l : List Lt) (j : Nat) : (l.flatMap Lt.enc).drop (j * 4) = (l.drop j).flatMap Lt.enc := by
  induction l generalizing j with
  | nil => simp
  | cons x l ih =>
    cases j with
    | zero => simp
    | succ j =>
      rw [List.flatMap_cons, show (j + 1) * 4 = x.enc.length + j * 4 by rw [Lt.enc_length]; omega, ← List.drop_drop, List.drop_left, List.drop_succ_cons]
      exact ih j
theorem DelcellsT (l : List Lt) (i : Nat) : (l.flatMap Lt.enc).take (i * 4) = (l.take i).flatMap Lt.enc := by
  induction l generalizing i with
  | nil => simp
  | cons x l ih =>
    cases i with
    | zero => simp
    | succ i =>
      rw [List.flatMap_cons, show (i + 1) * 4 = x.enc.length + i * 4 by rw [Lt.enc_length]; omega, List.take_length_add_append, List.take_succ_cons, List.flatMap_cons]
      rw [ih i]
def DelQ (base hb cap m : Nat) (l : List Lt) (w : World) (v : Value) (w' : World) : Prop := v = .slice (some ⟨hb, 0, none⟩) m cap ∧ Only [hb] w w' ∧ w'.ownsRow base 62 4 v m (l.flatMap Lt.enc)
set_option maxRecDepth 100000 in
set_option maxHeartbeats 4000000 in
theorem delete_any (base hb cap i j : Nat) (l : List Lt) (w : World) (h : w.ownsRow base 62 4 (.slice (some ⟨hb, 0, none⟩) l.length cap) l.length (l.flatMap Lt.enc)) (hij : i < j) (hjl : j ≤ l.length) (hl : l.length ≤ 1000000) :
    Calls Try.prog 110 #[.slice (some ⟨hb, 0, none⟩) l.length cap, .int .i64 i, .int .i64 j] w (Ret (DelQ base hb cap (l.length - (j - i)) (l.take i ++ l.drop j) w)) := by
  obtain ⟨n, hd⟩ : ∃ n, l.length = n := ⟨_, rfl⟩
  rw [hd] at h hl hjl ⊢
  obtain ⟨d, hnj⟩ : ∃ d, n - j = d := ⟨_, rfl⟩
  obtain ⟨m, him⟩ : ∃ m, i + d = m := ⟨_, rfl⟩
  obtain ⟨q, hnm⟩ : ∃ q, n - m = q := ⟨_, rfl⟩
  have hq : 0 < q := by omega
  have hm : n - (j - i) = m := by omega
  rw [hm]
  clear hm
  obtain ⟨hlen, h2⟩ := h
  obtain ⟨g, cp, cur, e, hbg, hheap, hnc, hcm, hcs, htake⟩ : ∃ g cp cur, Value.slice (some ⟨hb, 0, none⟩) n cap = .slice (some ⟨g, 0, none⟩) n cp ∧ base ≤ g ∧ w.heap[g]? = some (.cells cur 62 (0, 0)) ∧ n ≤ cp ∧ cp ≤ maxLen ∧ cur.size = cp * 4 ∧ cur.toList.take (n * 4) = l.flatMap Lt.enc := by
    rcases h2 with ⟨h3, _⟩ | h3
    · cases h3
    · exact h3
  cases e
  have hblk : Blk w hb cur 62 := hheap
  obtain ⟨i0, z0, hi0, hz0, hs0, hb0, hzs0⟩ := elemL.info
  obtain ⟨news, hnews⟩ : ∃ news, news = (l.drop j).flatMap Lt.enc := ⟨_, rfl⟩
  have hnl : news.length = d * 4 := by rw [hnews, flat_length Lt.enc_length, List.length_drop, hd, hnj]
  have hcell : ∀ r, r < cap * 4 → ∃ u, w.cell? ⟨hb, r, none⟩ = some u := fun r hr => by
    rw [hblk.cell]
    exact ⟨cur[r]'(by omega), Array.getElem?_eq_getElem (by omega)⟩
  have hsrc : ∀ r u, news[r]? = some u → w.cell? ⟨hb, j * 4 + r, none⟩ = some u := by
    intro r u hu
    have hr := (List.getElem?_eq_some_iff.1 hu).1
    rw [hnews, ← Delcells, List.getElem?_drop, ← htake, List.getElem?_take, if_pos (by omega), Array.getElem?_toList] at hu
    rw [hblk.cell]; exact hu
  have hold : ∀ r, r < i * 4 → w.cell? ⟨hb, r, none⟩ = ((l.take i).flatMap Lt.enc)[r]? := by
    intro r hr
    rw [← DelcellsT, List.getElem?_take, if_pos hr, ← htake, List.getElem?_take, if_pos (by omega), Array.getElem?_toList, hblk.cell]
  obtain ⟨W1, hW1⟩ : ∃ W1, W1 = w.drew.setCells hb (i * 4) news := ⟨_, rfl⟩
  obtain ⟨cs1, hb1, hc1⟩ := Blk.setCells (w := w.drew) (cs := cur) (t := 62) news (i * 4) hblk
  rw [← hW1] at hb1
  have hcell1 : ∀ r, r < cap * 4 → (W1.cell? ⟨hb, r, none⟩).isSome = true := fun r hr => by
    rw [hb1.cell, Array.getElem?_eq_getElem (by omega)]; rfl
  have hz : ∃ z : Value, (∀ w, (zeroValue 62).run Try.prog w = .ok z w) ∧ z.cells.size = 4 ∧ ∀ v ∈ z.cells.toList, v.oneCell' = true := by
    refine ⟨.agg #[.int .i64 0, .int .i64 0, .int .i64 0, .string ByteArray.empty], Try.zeroValue62, rfl, ?_⟩
    intro v hv
    simp only [Value.cells, List.mem_cons, List.not_mem_nil, or_false] at hv
    rcases hv with rfl | rfl | rfl | rfl <;> rfl
  obtain ⟨z, hzv, hzsz, hzone⟩ := hz
  obtain ⟨zs, hzl, hcl⟩ := run_clear_cells (P := Try.prog) (t := 50) (e := 62) (size := 4) W1 Try.underlying50 z hzv hzsz hzone hb (m * 4) q (cap - m) hq (fun r hr => hcell1 _ (by omega)) (fun r _ => hb1.free _)
  obtain ⟨cs2, hb2, hc2⟩ := Blk.setCells (w := W1) (cs := cs1) (t := 62) zs (m * 4) hb1
  have fin : DelQ base hb cap m (l.take i ++ l.drop j) w (.slice (some ⟨hb, 0, none⟩) m cap) (W1.setCells hb (m * 4) zs) := by
    refine ⟨rfl, ?_, ?_⟩
    · have h1 : Only [hb] w W1 := by rw [hW1]; exact Only.setCells (by simp) _ _ (Only.refl _ _).drew
      exact Only.setCells (by simp) _ _ h1
    · have htl : (l.take i).length = i := by rw [List.length_take]; omega
      have e1 : (l.take i ++ l.drop j).flatMap Lt.enc = (l.take i).flatMap Lt.enc ++ news := by rw [List.flatMap_append, hnews]
      have e2 : ((l.take i).flatMap Lt.enc).length = i * 4 := by rw [flat_length Lt.enc_length, htl]
      rw [e1]
      refine owns_of_blk hb2 hbg (by rw [hc2, hc1, hcs]) (by omega) hcm (by rw [List.length_append, e2, hnl]; omega) fun r hr => ?_
      rw [List.length_append, e2, hnl] at hr
      rw [← hb2.cell, World.cell?_setCells_out hb zs (m * 4) W1 ⟨hb, r, none⟩ (fun _ _ => .inl (by show r < m * 4; omega)), hW1]
      by_cases hri : r < i * 4
      · rw [World.cell?_setCells_out hb news (i * 4) w.drew ⟨hb, r, none⟩ (fun _ _ => .inl hri)]
        rw [List.getElem?_append_left (by omega)]
        exact hold r hri
      · obtain ⟨s, rfl⟩ : ∃ s, r = i * 4 + s := ⟨r - i * 4, by omega⟩
        have hin := World.cell?_setCells_in hb news (i * 4) w.drew (fun r hr => by
          obtain ⟨u, hu⟩ := hcell (i * 4 + r) (by omega)
          show (w.cell? _).isSome = true
          rw [hu]; rfl) s (by omega)
        rw [hin, List.getElem?_append_right (by omega), e2, Nat.add_sub_cancel_left, List.getElem?_eq_getElem (by omega)]
  have HFin := hid fin
  have HNone := hid (Lt.one (l.drop j))
  have HSrc := hid hsrc
  have HSp : Hid (∀ r, r < news.length → (w.drew.cell? ⟨hb, 0 + i * 4 + r, none⟩).isSome = true ∧ w.drew.frozen? ⟨hb, 0 + i * 4 + r, none⟩ = false) := by
    intro r hr
    obtain ⟨u, hu⟩ := hcell (0 + i * 4 + r) (by omega)
    exact ⟨by show (w.cell? _).isSome = true; rw [hu]; rfl, hblk.free _⟩
  have HN := hid hnews
  have HW1 : Hid (W1 = w.drew.setCells hb (0 + i * 4) news) := by show _ = _; rw [Nat.zero_add]; exact hW1
  have HNL := hid hnl
  have hroom : i + d ≤ cap := by omega
  have k0 : (0 : Int) ≤ (i : Int) := by omega
  have k1 : (0 : Int) ≤ (j : Int) := by omega
  have k1b : (i : Int) ≤ (j : Int) := by omega
  have k2 : (j : Int) ≤ (n : Int) := by omega
  have k3 : (n : Int) ≤ (cap : Int) := by omega
  have k4 : (j : Int) ≤ (cap : Int) := by omega
  have k4b : (i : Int) ≤ (cap : Int) := by omega
  have k4c : (i : Int) ≤ (n : Int) := by omega
  have k5 : (0 : Int) ≤ (m : Int) := by omega
  have k6 : (m : Int) ≤ (n : Int) := by omega
  have k7 : (m : Int) ≤ (cap : Int) := by omega
  have k8 : (0 : Int) ≤ (cap : Int) := by omega
  have q0 : ((i : Int) == (j : Int)) = false := by rw [beq_eq_false_iff_ne]; omega
  have hq0 : ¬ q = 0 := by omega
  have hcd : ¬ cap = m := by omega
  have hDz : cap = j → d = 0 := by omega
  have HDz := hid hDz
  clear fin hnews hW1 hnl hsrc hold hcell hcell1 hb1 hb2 hc1 hc2 hzl hzv hzsz hzone htake hheap hblk h2 hlen hcs hDz
  by_cases hcj : cap = j
  · subst hcj
    have hd0 := HDz.out rfl
    have HNil : Hid (∀ r u, news[r]? = some u → w.drew.cell? ((⟨hb, 0, none⟩ : Addr).add r) = some u) := by
      intro r u hu
      have := (List.getElem?_eq_some_iff.1 hu).1
      rw [HNL.out, hd0] at this
      omega
    have kk1 : (cap : Int) ≤ (cap : Int) := by omega
    clear hd0
    go_enter Try.func110, Try.ntmps110
    go_wp2_with fail
    go_region_law (refine step_append_room rfl (.tmp 22) (.tmp 25) 50 rfl 62 i0 4 Try.underlying50 hi0 hs0 hb 0 i cap (by simp [Act.eval, Act.put]) ⟨hb, 0, none⟩ d 0 news (by simp [Act.eval, Act.put, hnj]) HNL.out HNil.out (by rw [HN.out]; exact HNone.out) hroom HSp.out ?_; rw [← HW1.out])
    go_wp2_with fail
    go_ret
    exact ⟨_, rfl, HFin.out⟩
  · go_enter Try.func110, Try.ntmps110
    go_wp2_with fail
    go_region_law (refine step_append_room rfl (.tmp 22) (.tmp 25) 50 rfl 62 i0 4 Try.underlying50 hi0 hs0 hb 0 i cap (by simp [Act.eval, Act.put]) ⟨hb, j * 4, none⟩ d (cap - j) news (by simp [Act.eval, Act.put, hnj]) HNL.out (fun q u hu => by rw [addr_add]; exact HSrc.out q u hu) (by rw [HN.out]; exact HNone.out) hroom HSp.out ?_; rw [← HW1.out])
    go_wp2_with fail
    go_ret
    exact ⟨_, rfl, HFin.out⟩
end C28
end Go.Proofs.Ythmopkaecbebpaa
