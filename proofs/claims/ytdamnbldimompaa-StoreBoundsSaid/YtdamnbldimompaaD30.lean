/- Walks of layer 30 (store): lists of traces cloned, shortened; no condition. -/
import Derived.Test.YtdamnbldimompaaC30
import Derived.Test.YtdamnbldimompaaKq
namespace Go.Proofs.Ytdamnbldimompaa
open Go.RowKit Go.Peri
namespace C30
theorem elemK : Elem Try.prog 22 34 5 48 := Elem.mk' (z := .agg #[.int .u64 0, .int .u64 0, .slice none 0 0, .bool false, .bool false]) Try.underlying22 (by kernel_rfl) rfl (by decide)
set_option maxRecDepth 100000 in
theorem kclone_any {p : Nat → Prop} (v : Value) (l : List Kq) (W : World) (h : RowsOf p Kq.enc 5 W v l) (hp : ∀ b, p b → b < W.heap.size) (hl : l.length ≤ 1000000) :
    Calls Try.prog 37 #[v] W fun e w' => ∃ a cap, e = .returned (.slice a l.length cap) ∧ Below W.heap.size W w' ∧ Hid (w'.ownsRow W.heap.size 34 5 (.slice a l.length cap) l.length (l.flatMap Kq.enc)) := by
  have qnil : ∀ (w : World) (a : Option Addr) (n c : Nat), (binOp .eql 22 (.slice a n c) (.slice none 0 0)).run Try.prog w = .ok (.bool a.isNone) w := fun w a n c => Lib.run_eql_slice_nil w 22 34 a n c 0 0 Try.underlying22
  have HV := hid h
  have HP := hid hp
  obtain ⟨a, cap, rfl, hlc, hcm, hnn, _⟩ := h
  clear hp
  cases a with
  | none =>
    have hc0 := hnn rfl
    subst hc0
    have hl0 : l.length = 0 := by omega
    have hln : l = [] := List.length_eq_zero_iff.1 hl0
    subst hln
    go_enter Try.func37, Try.ntmps37
    go_wp2_with fail
    go_ret
    exact ⟨none, 0, rfl, Below.refl _ _, World.ownsRow_nil _ _ _ _⟩
  | some ad =>
    have HC : Hid (Cellz p 5 (W.alloc (.cells #[] 34)) (.slice (some ad) l.length cap) l.length (l.flatMap Kq.enc)) := (HV.out.below (B := W.heap.size) ((Below.refl _ W).alloc (Nat.le_refl _) _) HP.out).cellz Kq.enc_length
    go_enter Try.func37, Try.ntmps37
    go_wp2_with (at_builtin; refine wpList_pushCells elemK rfl _ _ rfl W.heap.size _ 0 [] rfl (World.ownsRow_made W #[] 0 (Nat.le_refl _) (Nat.zero_le _) (by simp)) rfl HC.out (Kq.one l) ?_ ?_ ?_ ?_)
    · unfold maxLen; omega
    · omega
    · simp
    intro v1 w1 hown hb
    have HB : Hid (Below W.heap.size W w1) := ((Below.refl _ W).alloc (Nat.le_refl _) _).trans hb
    have hown2 : w1.ownsRow W.heap.size 34 5 v1 l.length (l.flatMap Kq.enc) := by simpa using hown
    have hr : RowsOf (fun b => W.heap.size ≤ b ∧ b < w1.heap.size) Kq.enc 5 w1 v1 l := RowsOf.of_owns Kq.enc_length hown2
    have HR := hid hown2
    clear hown2
    obtain ⟨a1, cap1, rfl, _⟩ := hr
    clear hown hb
    go_wp2_with fail
    go_ret
    exact ⟨a1, cap1, rfl, HB.out, HR.out⟩
theorem KDelcells (l : List Kq) (j : Nat) : (l.flatMap Kq.enc).drop (j * 5) = (l.drop j).flatMap Kq.enc := by
  induction l generalizing j with
  | nil => simp
  | cons x l ih =>
    cases j with
    | zero => simp
    | succ j =>
      rw [List.flatMap_cons, show (j + 1) * 5 = x.enc.length + j * 5 by rw [Kq.enc_length]; omega, ← List.drop_drop, List.drop_left, List.drop_succ_cons]
      exact ih j
theorem KDelcellsT (l : List Kq) (i : Nat) : (l.flatMap Kq.enc).take (i * 5) = (l.take i).flatMap Kq.enc := by
  induction l generalizing i with
  | nil => simp
  | cons x l ih =>
    cases i with
    | zero => simp
    | succ i =>
      rw [List.flatMap_cons, show (i + 1) * 5 = x.enc.length + i * 5 by rw [Kq.enc_length]; omega, List.take_length_add_append, List.take_succ_cons, List.flatMap_cons]
      rw [ih i]
def KDelQ (base hb cap m : Nat) (l : List Kq) (w : World) (v : Value) (w' : World) : Prop := v = .slice (some ⟨hb, 0, none⟩) m cap ∧ Only [hb] w w' ∧ w'.ownsRow base 34 5 v m (l.flatMap Kq.enc)
set_option maxRecDepth 100000 in
set_option maxHeartbeats 4000000 in
theorem kdelete_any (base hb cap i j : Nat) (l : List Kq) (w : World) (h : w.ownsRow base 34 5 (.slice (some ⟨hb, 0, none⟩) l.length cap) l.length (l.flatMap Kq.enc)) (hij : i < j) (hjl : j ≤ l.length) (hl : l.length ≤ 1000000) :
    Calls Try.prog 25 #[.slice (some ⟨hb, 0, none⟩) l.length cap, .int .i64 i, .int .i64 j] w (Ret (KDelQ base hb cap (l.length - (j - i)) (l.take i ++ l.drop j) w)) := by
  obtain ⟨n, hd⟩ : ∃ n, l.length = n := ⟨_, rfl⟩
  rw [hd] at h hl hjl ⊢
  obtain ⟨d, hnj⟩ : ∃ d, n - j = d := ⟨_, rfl⟩
  obtain ⟨m, him⟩ : ∃ m, i + d = m := ⟨_, rfl⟩
  obtain ⟨q, hnm⟩ : ∃ q, n - m = q := ⟨_, rfl⟩
  have hq : 0 < q := by omega
  have hm : n - (j - i) = m := by omega
  rw [hm]
  clear hm
  obtain ⟨hlen, h2⟩ := h
  obtain ⟨g, cp, cur, e, hbg, hheap, hnc, hcm, hcs, htake⟩ : ∃ g cp cur, Value.slice (some ⟨hb, 0, none⟩) n cap = .slice (some ⟨g, 0, none⟩) n cp ∧ base ≤ g ∧ w.heap[g]? = some (.cells cur 34 (0, 0)) ∧ n ≤ cp ∧ cp ≤ maxLen ∧ cur.size = cp * 5 ∧ cur.toList.take (n * 5) = l.flatMap Kq.enc := by
    rcases h2 with ⟨h3, _⟩ | h3
    · cases h3
    · exact h3
  cases e
  have hblk : Blk w hb cur 34 := hheap
  obtain ⟨i0, z0, hi0, hz0, hs0, hb0, hzs0⟩ := elemK.info
  obtain ⟨news, hnews⟩ : ∃ news, news = (l.drop j).flatMap Kq.enc := ⟨_, rfl⟩
  have hnl : news.length = d * 5 := by rw [hnews, flat_length Kq.enc_length, List.length_drop, hd, hnj]
  have hcell : ∀ r, r < cap * 5 → ∃ u, w.cell? ⟨hb, r, none⟩ = some u := fun r hr => by
    rw [hblk.cell]
    exact ⟨cur[r]'(by omega), Array.getElem?_eq_getElem (by omega)⟩
  have hsrc : ∀ r u, news[r]? = some u → w.cell? ⟨hb, j * 5 + r, none⟩ = some u := by
    intro r u hu
    have hr := (List.getElem?_eq_some_iff.1 hu).1
    rw [hnews, ← KDelcells, List.getElem?_drop, ← htake, List.getElem?_take, if_pos (by omega), Array.getElem?_toList] at hu
    rw [hblk.cell]; exact hu
  have hold : ∀ r, r < i * 5 → w.cell? ⟨hb, r, none⟩ = ((l.take i).flatMap Kq.enc)[r]? := by
    intro r hr
    rw [← KDelcellsT, List.getElem?_take, if_pos hr, ← htake, List.getElem?_take, if_pos (by omega), Array.getElem?_toList, hblk.cell]
  obtain ⟨W1, hW1⟩ : ∃ W1, W1 = w.drew.setCells hb (i * 5) news := ⟨_, rfl⟩
  obtain ⟨cs1, hb1, hc1⟩ := Blk.setCells (w := w.drew) (cs := cur) (t := 34) news (i * 5) hblk
  rw [← hW1] at hb1
  have hcell1 : ∀ r, r < cap * 5 → (W1.cell? ⟨hb, r, none⟩).isSome = true := fun r hr => by
    rw [hb1.cell, Array.getElem?_eq_getElem (by omega)]; rfl
  have hz : ∃ z : Value, (∀ w, (zeroValue 34).run Try.prog w = .ok z w) ∧ z.cells.size = 5 ∧ ∀ v ∈ z.cells.toList, v.oneCell' = true := by
    refine ⟨.agg #[.int .u64 0, .int .u64 0, .slice none 0 0, .bool false, .bool false], Try.zeroValue34, rfl, ?_⟩
    intro v hv
    simp only [Value.cells, List.mem_cons, List.not_mem_nil, or_false] at hv
    rcases hv with rfl | rfl | rfl | rfl | rfl <;> rfl
  obtain ⟨z, hzv, hzsz, hzone⟩ := hz
  obtain ⟨zs, hzl, hcl⟩ := run_clear_cells (P := Try.prog) (t := 22) (e := 34) (size := 5) W1 Try.underlying22 z hzv hzsz hzone hb (m * 5) q (cap - m) hq (fun r hr => hcell1 _ (by omega)) (fun r _ => hb1.free _)
  obtain ⟨cs2, hb2, hc2⟩ := Blk.setCells (w := W1) (cs := cs1) (t := 34) zs (m * 5) hb1
  have fin : KDelQ base hb cap m (l.take i ++ l.drop j) w (.slice (some ⟨hb, 0, none⟩) m cap) (W1.setCells hb (m * 5) zs) := by
    refine ⟨rfl, ?_, ?_⟩
    · have h1 : Only [hb] w W1 := by rw [hW1]; exact Only.setCells (by simp) _ _ (Only.refl _ _).drew
      exact Only.setCells (by simp) _ _ h1
    · have htl : (l.take i).length = i := by rw [List.length_take]; omega
      have e1 : (l.take i ++ l.drop j).flatMap Kq.enc = (l.take i).flatMap Kq.enc ++ news := by rw [List.flatMap_append, hnews]
      have e2 : ((l.take i).flatMap Kq.enc).length = i * 5 := by rw [flat_length Kq.enc_length, htl]
      rw [e1]
      refine owns_of_blk hb2 hbg (by rw [hc2, hc1, hcs]) (by omega) hcm (by rw [List.length_append, e2, hnl]; omega) fun r hr => ?_
      rw [List.length_append, e2, hnl] at hr
      rw [← hb2.cell, World.cell?_setCells_out hb zs (m * 5) W1 ⟨hb, r, none⟩ (fun _ _ => .inl (by show r < m * 5; omega)), hW1]
      by_cases hri : r < i * 5
      · rw [World.cell?_setCells_out hb news (i * 5) w.drew ⟨hb, r, none⟩ (fun _ _ => .inl hri)]
        rw [List.getElem?_append_left (by omega)]
        exact hold r hri
      · obtain ⟨s, rfl⟩ : ∃ s, r = i * 5 + s := ⟨r - i * 5, by omega⟩
        have hin := World.cell?_setCells_in hb news (i * 5) w.drew (fun r hr => by
          obtain ⟨u, hu⟩ := hcell (i * 5 + r) (by omega)
          show (w.cell? _).isSome = true
          rw [hu]; rfl) s (by omega)
        rw [hin, List.getElem?_append_right (by omega), e2, Nat.add_sub_cancel_left, List.getElem?_eq_getElem (by omega)]
  have HFin := hid fin
  have HNone := hid (Kq.one (l.drop j))
  have HSrc := hid hsrc
  have HSp : Hid (∀ r, r < news.length → (w.drew.cell? ⟨hb, 0 + i * 5 + r, none⟩).isSome = true ∧ w.drew.frozen? ⟨hb, 0 + i * 5 + r, none⟩ = false) := by
    intro r hr
    obtain ⟨u, hu⟩ := hcell (0 + i * 5 + r) (by omega)
    exact ⟨by show (w.cell? _).isSome = true; rw [hu]; rfl, hblk.free _⟩
  have HN := hid hnews
  have HW1 : Hid (W1 = w.drew.setCells hb (0 + i * 5) news) := by show _ = _; rw [Nat.zero_add]; exact hW1
  have HNL := hid hnl
  have hroom : i + d ≤ cap := by omega
  have k0 : (0 : Int) ≤ (i : Int) := by omega
  have k1 : (0 : Int) ≤ (j : Int) := by omega
  have k1b : (i : Int) ≤ (j : Int) := by omega
  have k2 : (j : Int) ≤ (n : Int) := by omega
  have k3 : (n : Int) ≤ (cap : Int) := by omega
  have k4 : (j : Int) ≤ (cap : Int) := by omega
  have k4b : (i : Int) ≤ (cap : Int) := by omega
  have k4c : (i : Int) ≤ (n : Int) := by omega
  have k5 : (0 : Int) ≤ (m : Int) := by omega
  have k6 : (m : Int) ≤ (n : Int) := by omega
  have k7 : (m : Int) ≤ (cap : Int) := by omega
  have k8 : (0 : Int) ≤ (cap : Int) := by omega
  have q0 : ((i : Int) == (j : Int)) = false := by rw [beq_eq_false_iff_ne]; omega
  have hq0 : ¬ q = 0 := by omega
  have hcd : ¬ cap = m := by omega
  have hDz : cap = j → d = 0 := by omega
  have HDz := hid hDz
  clear fin hnews hW1 hnl hsrc hold hcell hcell1 hb1 hb2 hc1 hc2 hzl hzv hzsz hzone htake hheap hblk h2 hlen hcs hDz
  by_cases hcj : cap = j
  · subst hcj
    have hd0 := HDz.out rfl
    have HNil : Hid (∀ r u, news[r]? = some u → w.drew.cell? ((⟨hb, 0, none⟩ : Addr).add r) = some u) := by
      intro r u hu
      have := (List.getElem?_eq_some_iff.1 hu).1
      rw [HNL.out, hd0] at this
      omega
    have kk1 : (cap : Int) ≤ (cap : Int) := by omega
    clear hd0
    go_enter Try.func25, Try.ntmps25
    go_wp2_with fail
    go_region_law (refine step_append_room rfl (.tmp 22) (.tmp 25) 22 rfl 34 i0 5 Try.underlying22 hi0 hs0 hb 0 i cap (by simp [Act.eval, Act.put]) ⟨hb, 0, none⟩ d 0 news (by simp [Act.eval, Act.put, hnj]) HNL.out HNil.out (by rw [HN.out]; exact HNone.out) hroom HSp.out ?_; rw [← HW1.out])
    go_wp2_with fail
    go_ret
    exact ⟨_, rfl, HFin.out⟩
  · go_enter Try.func25, Try.ntmps25
    go_wp2_with fail
    go_region_law (refine step_append_room rfl (.tmp 22) (.tmp 25) 22 rfl 34 i0 5 Try.underlying22 hi0 hs0 hb 0 i cap (by simp [Act.eval, Act.put]) ⟨hb, j * 5, none⟩ d (cap - j) news (by simp [Act.eval, Act.put, hnj]) HNL.out (fun q u hu => by rw [addr_add]; exact HSrc.out q u hu) (by rw [HN.out]; exact HNone.out) hroom HSp.out ?_; rw [← HW1.out])
    go_wp2_with fail
    go_ret
    exact ⟨_, rfl, HFin.out⟩
end C30
end Go.Proofs.Ytdamnbldimompaa
