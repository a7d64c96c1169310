/- Walks of layer 4 (head): headers with just one of a name; no condition. -/
import Derived.Test.YtpamnknfccmgcaaH04
namespace Go.Peri
open Go.RowKit
theorem RowsOf.takeN {α : Type} {p : Nat → Prop} {enc : α → List Value} {k : Nat} {w : World} {a : Option Addr} {n cap : Nat} {l : List α} (h : RowsOf p enc k w (.slice a n cap) l) (m : Nat) (hm : m ≤ n) : RowsOf p enc k w (.slice a m cap) (l.take m) := by
  obtain ⟨a', cap', e, h2, h3, h4, h5⟩ := h
  cases e
  refine ⟨a, cap, ?_, by rw [List.length_take]; omega, h3, h4, ?_⟩
  · rw [List.length_take, Nat.min_eq_left hm]
  · refine h5.imp (fun e => by rw [e]; simp) ?_
    rintro ⟨b, off, g1, g2, g3⟩
    refine ⟨b, off, g1, g2, fun i hi j u hu => ?_⟩
    rw [List.length_take] at hi
    rw [List.getElem_take] at hu
    exact g3 i (by omega) j u hu
theorem RowsOf.dropN {α : Type} {p : Nat → Prop} {enc : α → List Value} {k : Nat} {w : World} {b off n cap : Nat} {l : List α} (h : RowsOf p enc k w (.slice (some ⟨b, off, none⟩) n cap) l) (m : Nat) (hm : m ≤ n) : RowsOf p enc k w (.slice (some ⟨b, off + m * k, none⟩) (n - m) (cap - m)) (l.drop m) := by
  obtain ⟨a', cap', e, h2, h3, h4, h5⟩ := h
  cases e
  refine ⟨_, _, by rw [List.length_drop], by rw [List.length_drop]; omega, by omega, by simp, ?_⟩
  refine h5.imp (fun e => by rw [e]; simp) ?_
  rintro ⟨b', off', g1, g2, g3⟩
  cases g1
  refine ⟨b, off + m * k, rfl, g2, fun i hi j u hu => ?_⟩
  rw [List.length_drop] at hi
  rw [List.getElem_drop] at hu
  have := g3 (m + i) (by omega) j u hu
  rw [← this]
  congr 2
  rw [Nat.add_mul]
  omega
end Go.Peri
namespace Go.Proofs.Ytpamnknfccmgcaa
open Go.RowKit Go.Peri
namespace C04
set_option maxRecDepth 100000 in
theorem set_any {p : Nat → Prop} (v : Value) (l m : List Hd) (n u : ByteArray) (W : World) (h : RowsOf p Hd.enc 2 W v l) (hp : ∀ b, p b → b < W.heap.size) (hl : l.length ≤ 10000) (hm : Hd.setR l n u = m) :
    Calls Try.prog 43 #[v, .string n, .string u] W (NewRows Hd.enc 2 131 W m) := by
  by_cases hx : Hd.ix l n < l.length
  · have HAT := hid (where_any v l n _ W h hp (by omega) (Hd.atR_in hx))
    have he : Hid (Hd.setR l n u = (l.take (Hd.ix l n) ++ [⟨n, u⟩]) ++ Hd.outR (l.drop (Hd.ix l n)) [n]) := hid (by
      unfold Hd.setR; rw [if_pos hx, Hd.outR_one]; simp)
    rw [hm] at he
    obtain ⟨k, hk⟩ : ∃ k, k = Hd.ix l n := ⟨_, rfl⟩
    rw [← hk] at hx HAT he
    obtain ⟨a, cap, rfl, hlc, hcm, hnn, hcell⟩ := h
    obtain ⟨b, off, rfl, hpb, hc⟩ := hcell.resolve_left (by intro e; rw [e] at hx; simp at hx)
    have HV : Hid (RowsOf p Hd.enc 2 W (.slice (some ⟨b, off, none⟩) l.length cap) l) := ⟨_, _, rfl, hlc, hcm, hnn, .inr ⟨b, off, rfl, hpb, hc⟩⟩
    obtain ⟨t1, ht1⟩ : ∃ t, l.take k ++ [⟨n, u⟩] = t := ⟨_, rfl⟩
    have htl : t1.length = k + 1 := by rw [← ht1, List.length_append, List.length_take]; simp; omega
    obtain ⟨t2, ht2⟩ : ∃ t, Hd.outR (l.drop k) [n] = t := ⟨_, rfl⟩
    have htl2 : t2.length ≤ l.length := by rw [← ht2]; exact Nat.le_trans (Hd.outR_len _ _) (by rw [List.length_drop]; omega)
    have htk : (l.take k).length = k := by rw [List.length_take]; omega
    have HADD : Hid (∀ w', Below W.heap.size W w' → Calls Try.prog 41 #[.slice (some ⟨b, off, none⟩) k cap, .string n, .string u] w' (NewRows Hd.enc 2 131 w' t1)) := fun w' hw' =>
      add_any _ (l.take k) t1 n u w' ((HV.out.takeN k (by omega)).below hw' hp) (fun b hb => Nat.lt_of_lt_of_le (hp b hb) hw'.size) (by rw [htk]; omega) ht1
    have HDR : Hid (∀ w', Below W.heap.size W w' → RowsOf p Hd.enc 2 w' (.slice (some ⟨b, off + k * 2, none⟩) (l.length - k) (cap - k)) (l.drop k)) := fun w' hw' => (HV.out.dropN k (by omega)).below hw' hp
    have hdl : (l.drop k).length ≤ 1000000 := by rw [List.length_drop]; omega
    have HDL := hid hdl
    rw [ht1, ht2] at he
    have HT2 := hid ht2
    have HTL := hid htl
    have HP := hid hp
    have k1 : (0 : Int) ≤ (k : Int) := by omega
    have k2 : (k : Int) ≤ (l.length : Int) := by omega
    have k3 : (k : Int) ≤ (cap : Int) := by omega
    have k4 : (l.length : Int) ≤ (cap : Int) := by omega
    have k5 : ¬ cap = k := by omega
    clear hk hcell hc hm ht1 ht2 htk hp hdl htl
    go_enter Try.func43, Try.ntmps43
    go_wp2_with fail
    refine HAT.out.mono ?_
    rintro e w1 ⟨rfl, hb1⟩
    have HB1 := hid hb1
    clear hb1
    go_wp2_with fail
    refine (HADD.out _ HB1.out).mono ?_
    rintro e w2 ⟨a2, cap2, rfl, hb2, hown2⟩
    have HB2 : Hid (Below W.heap.size W w2) := HB1.out.trans (hb2.mono HB1.out.size)
    have hs1 := HB1.out.size
    have hs2 := hb2.size
    have hk2 : Blk (w2.alloc (.cells #[.string n] 9)) w2.heap.size #[.string n] 9 := Blk.new _ _ _
    have HWO : Hid (Calls Try.prog 45 #[.slice (some ⟨b, off + k * 2, none⟩) (l.length - k) (cap - k), .slice (some ⟨w2.heap.size, 0, none⟩) 1 1] (w2.alloc (.cells #[.string n] 9)) (NewRows Hd.enc 2 131 (w2.alloc (.cells #[.string n] 9)) t2)) := hid (
      without_any (p := p) (pn := (· = w2.heap.size)) _ _ (l.drop k) t2 [n] _ (HDR.out _ (HB2.out.alloc (by omega) _)) (fun b hb => by have := HP.out b hb; simp; omega) HDL.out
        ⟨_, _, rfl, by simp, by decide, by simp, .inr ⟨_, 0, rfl, rfl, fun i hi j x hx => by
          have hi0 : i = 0 := by simp at hi; omega
          subst hi0
          have hj : j < 1 := (List.getElem?_eq_some_iff.1 hx).1
          have hj0 : j = 0 := by omega
          subst hj0
          rw [hk2.cell]
          exact hx⟩⟩ (fun b hb => by rw [hb]; simp) (by simp) HT2.out)
    clear hb2 hk2
    go_wp2_with fail
    refine HWO.out.mono ?_
    rintro e w3 ⟨a3, cap3, rfl, hb3, hown3⟩
    have hb23 : Below w2.heap.size w2 w3 := Below.trans (by go_grown) (hb3.mono (by simp))
    have HB3 : Hid (Below W.heap.size W w3) := HB2.out.trans (hb23.mono HB2.out.size)
    have hs3 := hb23.size
    have HO3 : Hid (w3.ownsRow w1.heap.size 131 2 (.slice a2 t1.length cap2) t1.length (t1.flatMap Hd.enc)) := hid (owns_keep hown2.out (Only.of_below hb23 : Only [] w2 w3) (fun k _ hk => by simp at hk))
    have HC3 : Hid (Cellz (fun b => (w2.alloc (.cells #[.string n] 9)).heap.size ≤ b ∧ b < w3.heap.size) 2 w3 (.slice a3 t2.length cap3) t2.length (t2.flatMap Hd.enc)) := Cellz.of_owns hown3.out
    have hsum : t1.length + t2.length ≤ 100000 := by rw [HTL.out]; omega
    clear hb3 hb23 hown2 hown3
    go_wp2_with (at_builtin; refine wpList_pushCells elemH rfl _ _ rfl w1.heap.size _ _ _ rfl HO3.out rfl HC3.out (Hd.one t2) ?_ ?_ ?_ ?_)
    · unfold maxLen; omega
    · omega
    · omega
    intro v4 w4 hown4 hb4
    have HB4 : Hid (Below W.heap.size W w4) := HB3.out.trans (hb4.mono HB1.out.size)
    have hown5 : w4.ownsRow W.heap.size 131 2 v4 m.length (m.flatMap Hd.enc) := by
      rw [he.out, List.length_append, List.flatMap_append]
      refine ⟨hown4.1, hown4.2.imp id ?_⟩
      rintro ⟨k, cp, cur, q1, q2, q3⟩
      exact ⟨k, cp, cur, q1, by omega, q3⟩
    obtain ⟨a4, cap4, rfl⟩ := owns_form hown5
    have HO5 := hid hown5
    clear hown4 hb4 hown5
    go_wp2_with fail
    go_ret
    exact ⟨a4, cap4, rfl, HB4.out, HO5.out⟩
  · have HAT := hid (where_any v l n _ W h hp (by omega) (Hd.atR_out hx))
    have he : Hid (l ++ [⟨n, u⟩] = m) := hid (by rw [← hm]; unfold Hd.setR; rw [if_neg hx])
    have HADD : Hid (∀ w', Below W.heap.size W w' → Calls Try.prog 41 #[v, .string n, .string u] w' (NewRows Hd.enc 2 131 w' m)) := fun w' hw' =>
      add_any v l m n u w' (h.below hw' hp) (fun b hb => Nat.lt_of_lt_of_le (hp b hb) hw'.size) (by omega) he.out
    clear h hp hm hx
    go_enter Try.func43, Try.ntmps43
    go_wp2_with fail
    refine HAT.out.mono ?_
    rintro e w1 ⟨rfl, hb1⟩
    have HB1 := hid hb1
    clear hb1
    go_wp2_with fail
    refine (HADD.out _ HB1.out).mono ?_
    rintro e w2 ⟨a2, cap2, rfl, hb2, hown2⟩
    have HB2 : Hid (Below W.heap.size W w2) := HB1.out.trans (hb2.mono HB1.out.size)
    have hs1 := HB1.out.size
    have HO2 : Hid (w2.ownsRow W.heap.size 131 2 (.slice a2 m.length cap2) m.length (m.flatMap Hd.enc)) := hid (by
      refine ⟨hown2.out.1, hown2.out.2.imp id ?_⟩
      rintro ⟨k, cp, cur, q1, q2, q3⟩
      exact ⟨k, cp, cur, q1, by omega, q3⟩)
    clear hb2 hown2
    go_wp2_with fail
    go_ret
    exact ⟨a2, cap2, rfl, HB2.out, HO2.out⟩
end C04
end Go.Proofs.Ytpamnknfccmgcaa
