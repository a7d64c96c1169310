/- Plain law of layer 12 (rule): the rule that is found among those by rank is the one that hits; those of one rank as they stood. No program in sight but its words. The law RuleOrders walked (12); no condition. -/
import Derived.Test.YtmmmaldpalhjeaaMg06
import Derived.Test.YtmmmaldpalhjeaaMg11
namespace Go.Peri
namespace Srt
theorem falls_filter {α : Type} (f : α → Int) (p : α → Bool) : ∀ l : List α, Falls f l → Falls f (l.filter p)
  | [], _ => trivial
  | x :: l, h => by
    rw [List.filter_cons]
    split
    · exact ⟨fun y hy => h.1 y (List.mem_filter.1 hy).1, falls_filter f p l h.2⟩
    · exact falls_filter f p l h.2
theorem order_filter_hit {α : Type} (f : α → Int) (p : α → Bool) (l : List α) : (order f l).filter p = order f (l.filter p) := by
  refine eq_of_filter f _ _ (falls_filter f p _ (falls_order f l)) (falls_order f _) fun k => ?_
  have e : ∀ m : List α, (m.filter p).filter (fun y => decide (f y = k)) = (m.filter (fun y => decide (f y = k))).filter p := fun m => by
    rw [List.filter_filter, List.filter_filter]
    congr 1
    funext y
    exact Bool.and_comm _ _
  rw [e, order_filter, order_filter, ← e]
theorem ins_head {α : Type} (f : α → Int) (x : α) (l : List α) : (ins f x l).head? = match l.head? with | none => some x | some y => if f x ≤ f y then some y else some x := by
  cases l with
  | nil => rfl
  | cons y l =>
    show (if f x ≤ f y then y :: ins f x l else x :: y :: l).head? = if f x ≤ f y then some y else some x
    split <;> rfl
end Srt
end Go.Peri
namespace Go.Proofs.Ytmmmaldpalhjeaa
open Go.RowKit Go.Peri
namespace C12
theorem firstI_head (hit : Rl → Bool) (l : List Rl) : ∀ k, k ≤ l.length → (firstI hit l k = -1 ∧ (Srt.order Rl.rank ((l.take k).filter hit)).head? = none) ∨ ∃ n : Nat, ∃ hn : n < l.length, n < k ∧ firstI hit l k = n ∧ hit l[n] = true ∧ (Srt.order Rl.rank ((l.take k).filter hit)).head? = some l[n]
  | 0, _ => .inl ⟨rfl, rfl⟩
  | k + 1, hk => by
    have hlt : k < l.length := by omega
    have hs : (l.take (k + 1)).filter hit = (l.take k).filter hit ++ (if hit l[k] = true then [l[k]] else []) := by
      rw [List.take_succ_eq_append_getElem hlt, List.filter_append]
      cases hb : hit l[k] <;> simp [hb]
    rcases firstI_head hit l k (by omega) with ⟨h1, h2⟩ | ⟨n, hn, hnk, h1, hh, h2⟩
    · have e := firstI_neg hit l k hlt (by omega)
      cases hb : hit l[k]
      · rw [hb, if_neg (by simp)] at e hs
        rw [List.append_nil] at hs
        exact .inl ⟨by rw [e, h1], by rw [hs, h2]⟩
      · rw [hb, if_pos rfl] at e hs
        refine .inr ⟨k, hlt, by omega, e, hb, ?_⟩
        rw [hs, Srt.order_snoc, Srt.ins_head, h2]
    · have e := firstI_pos hit l k n hlt hn h1
      cases hb : hit l[k]
      · rw [hb, Bool.false_and, if_neg (by simp)] at e
        rw [hb, if_neg (by simp), List.append_nil] at hs
        exact .inr ⟨n, hn, by omega, by rw [e, h1], hh, by rw [hs, h2]⟩
      · rw [hb, Bool.true_and] at e
        rw [hb, if_pos rfl] at hs
        rw [hs, Srt.order_snoc, Srt.ins_head, h2]
        by_cases hr : l[n].rank < l[k].rank
        · rw [if_pos (decide_eq_true hr)] at e
          exact .inr ⟨k, hlt, by omega, e, hb, by show (if l[k].rank ≤ l[n].rank then some l[n] else some l[k]) = _; rw [if_neg (by omega)]⟩
        · rw [if_neg (by simpa using hr)] at e
          exact .inr ⟨n, hn, by omega, by rw [e, h1], hh, by show (if l[k].rank ≤ l[n].rank then some l[n] else some l[k]) = _; rw [if_pos (by omega)]⟩
/-- What is found by rank is the first one that hits there. -/
theorem first_find (hit : Rl → Bool) (l : List Rl) : (firstR hit l = -1 ∧ (Srt.order Rl.rank l).find? hit = none) ∨ ∃ n : Nat, ∃ hn : n < l.length, firstR hit l = n ∧ (Srt.order Rl.rank l).find? hit = some l[n] := by
  have e : ∀ m : List Rl, m.find? hit = (m.filter hit).head? := fun m => (List.head?_filter).symm
  rw [e, Srt.order_filter_hit]
  rcases firstI_head hit l l.length (Nat.le_refl _) with ⟨h1, h2⟩ | ⟨n, hn, _, h1, _, h2⟩
  · rw [List.take_length] at h2
    exact .inl ⟨h1, h2⟩
  · rw [List.take_length] at h2
    exact .inr ⟨n, hn, h1, h2⟩
/-- The first one that hits, of rules that fall in rank. -/
theorem first_falls (hit : Rl → Bool) (l : List Rl) (hd : Srt.Desc Rl.rank l) : ∀ k, k ≤ l.length → (firstI hit l k = -1 ∧ ∀ j (_ : j < k) (hj : j < l.length), hit l[j] = false) ∨ ∃ n : Nat, ∃ hn : n < l.length, n < k ∧ hit l[n] = true ∧ (∀ j (_ : j < n) (hj : j < l.length), hit l[j] = false) ∧ firstI hit l k = n
  | 0, _ => .inl ⟨rfl, fun j hj => absurd hj (Nat.not_lt_zero _)⟩
  | k + 1, hk => by
    have hlt : k < l.length := by omega
    rcases first_falls hit l hd k (by omega) with ⟨h1, h2⟩ | ⟨n, hn, hnk, hh, h2, h1⟩
    · have e := firstI_neg hit l k hlt (by omega)
      cases hb : hit l[k]
      · rw [hb, if_neg (by simp)] at e
        refine .inl ⟨by rw [e, h1], fun j hj hjl => ?_⟩
        by_cases hjk : j = k
        · subst hjk; exact hb
        · exact h2 j (by omega) hjl
      · rw [hb, if_pos rfl] at e
        exact .inr ⟨k, hlt, by omega, hb, h2, e⟩
    · have e := firstI_pos hit l k n hlt hn h1
      have hr : ¬ l[n].rank < l[k].rank := by have := hd n k hn hlt (by omega); omega
      rw [decide_eq_false hr, Bool.and_false, if_neg (by simp)] at e
      exact .inr ⟨n, hn, by omega, hh, h2, by rw [e, h1]⟩
/-- Those of a rank. -/
def ofRank (r : Int) (l : List Rl) : List Rl := (l.filter (fun y => decide (y.rank = r))).map Rl.core
theorem ofRank_append (r : Int) (l m : List Rl) : ofRank r (l ++ m) = ofRank r l ++ ofRank r m := by
  unfold ofRank
  rw [List.filter_append, List.map_append]
theorem ofRank_one {r : Int} {x : Rl} (h : x.rank = r) : ofRank r [x] = [x.core] := by
  unfold ofRank
  simp [h]
theorem ofRank_other {r : Int} {x : Rl} (h : ¬ x.rank = r) : ofRank r [x] = [] := by
  unfold ofRank
  simp [h]
theorem ofRank_core {r : Int} : ∀ {l m : List Rl}, l.map Rl.core = m.map Rl.core → ofRank r l = ofRank r m
  | [], [], _ => rfl
  | [], _ :: _, h => by simp at h
  | _ :: _, [], h => by simp at h
  | x :: l, y :: m, h => by
    rw [List.map_cons, List.map_cons, List.cons.injEq] at h
    have e := ofRank_core (r := r) h.2
    have hr : x.rank = y.rank := (Rl.core_eq h.1).1
    rw [← List.singleton_append, ← List.singleton_append (l := m), ofRank_append, ofRank_append, e]
    by_cases hx : x.rank = r
    · rw [ofRank_one hx, ofRank_one (hr ▸ hx), h.1]
    · rw [ofRank_other hx, ofRank_other (fun hy => hx (hr.trans hy))]
theorem ofRank_order {l o : List Rl} (h : o.map Rl.core = (Srt.order Rl.rank l).map Rl.core) (r : Int) : ofRank r o = ofRank r l := by
  rw [ofRank_core h]
  unfold ofRank
  rw [Srt.order_filter]
theorem ofRank_take {r : Int} {l : List Rl} {k : Nat} (h : k < l.length) : ofRank r (l.take (k + 1)) = ofRank r (l.take k) ++ ofRank r [l[k]] := by
  rw [List.take_succ_eq_append_getElem h, ofRank_append]
theorem ofRank_parts (r : Int) {l : List Rl} {k : Nat} (h : k < l.length) : ofRank r l = ofRank r (l.take k) ++ (ofRank r [l[k]] ++ ofRank r (l.drop (k + 1))) := by
  conv => lhs; rw [← List.take_append_drop k l, List.drop_eq_getElem_cons h, ← List.singleton_append]
  rw [ofRank_append, ofRank_append]
theorem rank_of {l o : List Rl} (h : l.map Rl.core = o.map Rl.core) {i : Nat} (h1 : i < l.length) (h2 : i < o.length) : l[i].core = o[i].core := by
  have e1 : (l.map Rl.core)[i]? = (o.map Rl.core)[i]? := by rw [h]
  rw [List.getElem?_map, List.getElem?_map, List.getElem?_eq_getElem h1, List.getElem?_eq_getElem h2] at e1
  simpa using e1
/-- Where the search stands, ahead of place i. -/
def Stands (l o : List Rl) (i at_ : Nat) : Prop := i = 0 ∨ ∃ h : i - 1 < o.length, ofRank o[i - 1].rank (l.take at_) = ofRank o[i - 1].rank (o.take i)
theorem falls_core {l o : List Rl} (h : o.map Rl.core = (Srt.order Rl.rank l).map Rl.core) : Srt.Desc Rl.rank o := by
  have hd := Srt.order_desc Rl.rank l
  have hl : o.length = (Srt.order Rl.rank l).length := by
    have := congrArg List.length h
    simpa using this
  intro i j hi hj hij
  rw [(Rl.core_eq (rank_of h hi (by omega))).1, (Rl.core_eq (rank_of h hj (by omega))).1]
  exact hd i j (by omega) (by omega) hij
/-- Those of the rank at place i, ahead of it: none, if it is another rank than the one before. -/
theorem stands_new {l o : List Rl} (hd : Srt.Desc Rl.rank o) {i : Nat} (hi : i < o.length) (h : i = 0 ∨ ∃ h : i - 1 < o.length, o[i].rank ≠ o[i - 1].rank) : ofRank o[i].rank (l.take 0) = ofRank o[i].rank (o.take i) := by
  have e : o.take i = [] ∨ ∀ y ∈ o.take i, y.rank ≠ o[i].rank := by
    rcases h with rfl | ⟨h1, h2⟩
    · exact .inl rfl
    · right
      intro y hy
      obtain ⟨j, hj, rfl⟩ := List.mem_iff_getElem.1 hy
      rw [List.length_take] at hj
      rw [List.getElem_take]
      have g1 := hd j (i - 1) (by omega) h1 (by omega)
      have g2 := hd (i - 1) i h1 hi (by omega)
      omega
  have e2 : ofRank o[i].rank (o.take i) = [] := by
    unfold ofRank
    rcases e with e | e
    · rw [e]; rfl
    · rw [List.filter_eq_nil_iff.2 (fun y hy => by simpa using e y hy)]; rfl
  rw [e2]
  rfl
theorem stands_old {l o : List Rl} {i at_ : Nat} (hi : i < o.length) (h0 : 0 < i) (h : Stands l o i at_) (hr : ∀ h : i - 1 < o.length, o[i].rank = o[i - 1].rank) : ofRank o[i].rank (l.take at_) = ofRank o[i].rank (o.take i) := by
  rcases h with h | ⟨h1, h2⟩
  · omega
  · rw [hr h1]; exact h2
theorem stands_skip {l o : List Rl} {i at_ : Nat} (hi : i < o.length) (h : ofRank o[i].rank (l.take at_) = ofRank o[i].rank (o.take i)) (ha : at_ < l.length) (hn : ¬ l[at_].rank = o[i].rank) : ofRank o[i].rank (l.take (at_ + 1)) = ofRank o[i].rank (o.take i) := by
  rw [ofRank_take ha, ofRank_other hn, List.append_nil, h]
/-- The search ends at a place. -/
theorem stands_in {l o : List Rl} (hc : o.map Rl.core = (Srt.order Rl.rank l).map Rl.core) {i at_ : Nat} (hi : i < o.length) (h : ofRank o[i].rank (l.take at_) = ofRank o[i].rank (o.take i)) : ¬ l.length ≤ at_ := by
  intro hl
  rw [List.take_of_length_le hl, ← ofRank_order hc] at h
  have e := ofRank_parts o[i].rank hi
  rw [ofRank_one (x := o[i]) rfl] at e
  rw [h] at e
  have := congrArg List.length e
  simp at this
theorem stands_hit {l o : List Rl} (hc : o.map Rl.core = (Srt.order Rl.rank l).map Rl.core) {i at_ : Nat} (hi : i < o.length) (h : ofRank o[i].rank (l.take at_) = ofRank o[i].rank (o.take i)) (ha : at_ < l.length) (hr : l[at_].rank = o[i].rank) : l[at_].core = o[i].core ∧ Stands l o (i + 1) (at_ + 1) := by
  have e1 := ofRank_parts o[i].rank hi
  have e2 := ofRank_parts o[i].rank ha
  rw [ofRank_one (x := o[i]) rfl] at e1
  rw [ofRank_one hr] at e2
  rw [ofRank_order hc, e2, h] at e1
  have e3 := List.append_cancel_left e1
  simp only [List.singleton_append, List.cons.injEq] at e3
  refine ⟨e3.1, .inr ⟨by simpa using hi, ?_⟩⟩
  have e4 : ∀ (n : Nat) (hn : n < o.length), n = i → ofRank o[n].rank (l.take (at_ + 1)) = ofRank o[n].rank (o.take (i + 1)) := by
    rintro n hn rfl
    rw [ofRank_take ha, ofRank_take hi, h, ofRank_one hr, ofRank_one (x := o[n]) rfl, e3.1]
  exact e4 (i + 1 - 1) (by simpa using hi) (by omega)
/-- What is found of rules by rank, and of those as they stood. -/
theorem found_none {hit : Rl → Bool} {l o : List Rl} (hh : ∀ x y : Rl, x.core = y.core → hit x = hit y) (hc : o.map Rl.core = (Srt.order Rl.rank l).map Rl.core) (h : ∀ j (hj : j < o.length), hit o[j] = false) : firstR hit l = -1 ∧ firstR hit o = -1 := by
  have hlen : o.length = (Srt.order Rl.rank l).length := by
    have := congrArg List.length hc
    simpa using this
  constructor
  · rcases first_find hit l with ⟨h1, _⟩ | ⟨n, hn, _, h2⟩
    · exact h1
    · exfalso
      have hm := List.mem_of_find?_eq_some h2
      have ht := List.find?_some h2
      obtain ⟨j, hj, e⟩ := List.mem_iff_getElem.1 hm
      have := h j (by omega)
      rw [hh _ _ (rank_of hc (by omega) hj), e, ht] at this
      cases this
  · rcases first_falls hit o (falls_core hc) o.length (Nat.le_refl _) with ⟨h1, _⟩ | ⟨n, hn, _, h1, _⟩
    · exact h1
    · rw [h n hn] at h1; cases h1
theorem found_some {hit : Rl → Bool} {l o : List Rl} (hh : ∀ x y : Rl, x.core = y.core → hit x = hit y) (hc : o.map Rl.core = (Srt.order Rl.rank l).map Rl.core) {n : Nat} (hn : n < o.length) (h1 : hit o[n] = true) (h2 : ∀ j (_ : j < n) (hj : j < o.length), hit o[j] = false) : (∃ k : Nat, ∃ hk : k < l.length, firstR hit l = k ∧ l[k].core = o[n].core) ∧ firstR hit o = n := by
  have hlen : o.length = (Srt.order Rl.rank l).length := by
    have := congrArg List.length hc
    simpa using this
  constructor
  · have hfind : (Srt.order Rl.rank l).find? hit = some (Srt.order Rl.rank l)[n] := by
      rw [List.find?_eq_some_iff_getElem]
      refine ⟨by rw [← hh _ _ (rank_of hc hn (by omega))]; exact h1, n, by omega, rfl, fun j hj => ?_⟩
      rw [← hh _ _ (rank_of hc (by omega) (by omega)), h2 j hj (by omega)]
      rfl
    rcases first_find hit l with ⟨_, h3⟩ | ⟨k, hk, h3, h4⟩
    · rw [hfind] at h3; cases h3
    · rw [hfind] at h4
      exact ⟨k, hk, h3, by rw [← Option.some.inj h4]; exact (rank_of hc hn (by omega)).symm⟩
  · rcases first_falls hit o (falls_core hc) o.length (Nat.le_refl _) with ⟨_, h3⟩ | ⟨m, hm, _, h3, h4, h5⟩
    · rw [h3 n hn hn] at h1; cases h1
    · have : m = n := by
        rcases Nat.lt_trichotomy m n with hlt | he | hlt
        · rw [h2 m hlt hm] at h3; cases h3
        · exact he
        · rw [h4 n hlt hn] at h1; cases h1
      rw [← this]
      exact h5
end C12
end Go.Proofs.Ytmmmaldpalhjeaa
namespace Go.Proofs.Ytmmmaldpalhjeaa
open Go.RowKit Go.Peri
namespace C12
theorem row_at {w : World} {a : Option Addr} {c n : Nat} {l : List Rl} (h : RowsOf (· < w.heap.size) Rl.enc 10 w (.slice a n c) l) (hn : 0 < n) : ∃ b off, a = some ⟨b, off, none⟩ ∧ b < w.heap.size ∧ ∀ i (hi : i < l.length) j u, l[i].enc[j]? = some u → w.cell? ⟨b, off + i * 10 + j, none⟩ = some u := by
  obtain ⟨a', c', e, _, _, _, h5⟩ := h
  cases e
  rcases h5 with h5 | ⟨b, off, h1, h2, h3⟩
  · rw [h5] at hn; simp at hn
  · exact ⟨b, off, h1, h2, h3⟩
theorem wf_of_cores {w w' : World} {B : Nat} {l lo : List Rl} (hw : ∀ r ∈ l, r.Wf w B) (hc : lo.map Rl.core = (Srt.order Rl.rank l).map Rl.core) (ha : ∀ x ∈ lo, x.At (· < w'.heap.size) w') : ∀ r ∈ lo, r.Wf w' w'.heap.size := by
  intro r hr
  have hm : r.core ∈ (Srt.order Rl.rank l).map Rl.core := by rw [← hc]; exact List.mem_map_of_mem hr
  obtain ⟨y, hy, hyx⟩ := List.mem_map.1 hm
  exact Rl.Wf.of_core (hw y ((Srt.order_mem Rl.rank y l).1 hy)) hyx.symm (ha r hr)
theorem hit_core (m h p : ByteArray) (hs : List Hd) : ∀ x y : Rl, x.core = y.core → C11.allR m h p hs x.preds = C11.allR m h p hs y.preds := fun x y e => by rw [(Rl.core_eq e).2.1]
set_option maxRecDepth 100000 in
set_option maxHeartbeats 32000000 in
theorem orders_walk (K : Known) (v : Value) (l : List Rl) (m h p b : ByteArray) (hs : List Hd) (a0 : Option Addr) (cap0 : Nat) (W : World) (hl : RowsOf (· < W.heap.size) Rl.enc 10 W v l) (hw : ∀ x ∈ l, x.Wf W W.heap.size) (hll : l.length * 112 ≤ 140737488351232) (hq : ReqV W W.heap.size m h p b hs a0 cap0) :
    Calls Try.prog 11 #[v, .agg #[.string m, .string h, .string p, .slice a0 hs.length cap0, .string b]] W fun e w' => e = .returned (.bool true) ∧ Below W.heap.size W w' := by
  have HK := hid K
  obtain ⟨q1, hq1⟩ : ∃ q, Rl.few l = q := ⟨_, rfl⟩
  obtain ⟨q3, hq3⟩ : ∃ q, C11.short m h p b hs = q := ⟨_, rfl⟩
  obtain ⟨kk, hkk⟩ : ∃ r, firstR (fun r => C11.allR m h p hs r.preds) l = r := ⟨_, rfl⟩
  have HROW := hid (fun w' (hb : Below W.heap.size W w') => (hl.below hb (fun _ h => h)).imp (fun b h => Nat.lt_of_lt_of_le h hb.size))
  have HWF := hid (fun w' (hb : Below W.heap.size W w') (r : Rl) (hr' : r ∈ l) => (fun g : r.Wf w' W.heap.size => (⟨g.rows.imp (fun b h => Nat.lt_of_lt_of_le h hb.size), g.len, g.preds, g.rank, g.target, g.mirror⟩ : r.Wf w' w'.heap.size)) ((hw r hr').below hb))
  have HRV := hid (fun w' (hb : Below W.heap.size W w') => (fun g : ReqV w' W.heap.size m h p b hs a0 cap0 => (⟨g.rows.imp (fun b h => Nat.lt_of_lt_of_le h hb.size), g.len, g.wf, g.m, g.h, g.p, g.b⟩ : ReqV w' w'.heap.size m h p b hs a0 cap0)) (hq.below hb))
  have HF := hid (fun w' (hb : Below W.heap.size W w') => C16.fewR_any v l q1 w' (HROW.out w' hb) (HWF.out w' hb) (Nat.le_refl _) (by omega) hq1)
  have HSH := hid (fun w' (hw : Below W.heap.size W w') => C11.short_any m h p b hs a0 cap0 q3 w' (hq.rows.below hw (fun _ h => h)) (fun b hb => Nat.lt_of_lt_of_le hb hw.size) hq.wf (by have := hq.len; omega) hq.m hq.h hq.p hq.b hq3)
  have HPS1 : Hid (q1 = true → l.length ≤ 40 ∧ ∀ r ∈ l, r.preds.length ≤ 1000000) := hid (fun e => by
    subst e
    exact ⟨Rl.few_len hq1, fun r hr' => Nat.le_trans (Rl.few_preds hq1 r hr') (by decide)⟩)
  have HH1 : Hid (q3 = true → hs.length ≤ 1000000) := hid (fun e => by subst e; have := (C11.short_len hq3).2; omega)
  obtain ⟨a, cap, rfl⟩ := hl.form
  have HO := hid (fun w' (hb : Below W.heap.size W w') (h40 : l.length ≤ 40) (hp : ∀ r ∈ l, r.preds.length ≤ 1000000) => order40_any (.slice a l.length cap) l w' (HROW.out w' hb) (fun _ h => h) h40 (fun x hx => (HWF.out w' hb x hx).rows) hp)
  have HO1 := hid (fun w' (hb : Below W.heap.size W w') (hp : ∀ r ∈ l, r.preds.length ≤ 1000000) (hh : hs.length ≤ 1000000) => first_any (.slice a l.length cap) l m h p b hs a0 cap0 kk w' (HROW.out w' hb) (HWF.out w' hb) (HRV.out w' hb) hh (by omega) (fun r hr => Nat.le_trans (hp r hr) (by decide)) hkk)
  have HKK := hid hkk
  have HWW := hid hw
  clear hq1 hq3 hkk hl hw hll hq
  go_enter Try.func11, Try.ntmps11
  go_upto_region 1 with fail
  refine wp_gen ?_
  intro w1 hw1
  have hb1 : Below W.heap.size W w1 := by rw [hw1]; go_grown
  have hk1 : Blk w1 W.heap.size #[.string m, .string h, .string p, .slice a0 hs.length cap0, .string b] 67 := by rw [hw1]; exact Blk.new _ _ _
  clear hw1
  have HB1 := hid hb1
  have HX1 := hid hk1
  clear hb1 hk1
  go_wp2_with fail
  refine (HF.out _ HB1.out).mono ?_
  rintro e w2 ⟨rfl, hb2⟩
  have HB2 := hid (HB1.out.trans (hb2.mono HB1.out.size))
  have HX2 := hid (HX1.out.later hb2)
  clear hb2
  cases q1
  · go_wp2_with fail
    refine (HK.out _).mono ?_
    rintro e wk ⟨rfl, hbk⟩
    have HBK := hid (HB2.out.trans (hbk.mono HB2.out.size))
    clear hbk
    go_wp2_with fail
    go_ret
    exact ⟨rfl, HBK.out⟩
  have HP := hid (HPS1.out (by first | rfl | trivial)).2
  have HL40 := hid (HPS1.out (by first | rfl | trivial)).1
  clear HPS1 HF
  have x0 : w2.cell? ⟨W.heap.size, 0, none⟩ = some (.string m) := HX2.out.cell 0
  have x1 : w2.cell? ⟨W.heap.size, 1, none⟩ = some (.string h) := HX2.out.cell 1
  have x2 : w2.cell? ⟨W.heap.size, 2, none⟩ = some (.string p) := HX2.out.cell 2
  have x3 : w2.cell? ⟨W.heap.size, 3, none⟩ = some (.slice a0 hs.length cap0) := HX2.out.cell 3
  have x4 : w2.cell? ⟨W.heap.size, 4, none⟩ = some (.string b) := HX2.out.cell 4
  go_wp2_with fail
  refine (HSH.out _ HB2.out).mono ?_
  rintro e w3 ⟨rfl, hb3⟩
  have HB3 := hid (HB2.out.trans (hb3.mono HB2.out.size))
  have HX3 := hid (HX2.out.later hb3)
  clear hb3 x0 x1 x2 x3 x4
  cases q3
  · go_wp2_with fail
    refine (HK.out _).mono ?_
    rintro e wk ⟨rfl, hbk⟩
    have HBK := hid (HB3.out.trans (hbk.mono HB3.out.size))
    clear hbk
    go_wp2_with fail
    go_ret
    exact ⟨rfl, HBK.out⟩
  have HH := hid (HH1.out (by first | rfl | trivial))
  clear HH1 HSH
  have hl40 := HL40.out
  go_wp2_with fail
  refine (HO.out _ HB3.out HL40.out HP.out).mono ?_
  rintro e w4 ⟨v4, rfl, ho⟩
  obtain ⟨lo, ao, co, rfl, hol, hoB, hoc, HOr⟩ := OrdV.of_ord ho
  have HW4 := hid (HB3.out.trans (hoB.mono HB3.out.size))
  have HX4 := hid (HX3.out.later hoB)
  have hoc := hid hoc
  have HPO : Hid (∀ r ∈ lo, r.preds.length ≤ 1000000) := hid (core_psl hoc.out (fun r hr => HP.out r ((Srt.order_mem Rl.rank r l).1 hr)))
  have hnn : ((l.length : Int) != (l.length : Int)) = false := by simp
  have HOL := hid hol
  clear ho hoB HB3 HX3 HB2 HX2 HB1 HX1 HO
  go_wp2_with fail
  go_loopw [6, 7] (fun av iv wr => ∃ ka ki : Nat, ka ≤ l.length ∧ ki ≤ l.length ∧ av = .int .i64 ka ∧ iv = .int .i64 ki ∧ Hid (Below w4.heap.size w4 wr) ∧ Hid (Stands l lo ki ka)) (fun _ iv _ => l.length - (intOf iv).toNat)
  case atStart => exact ⟨0, 0, Nat.zero_le _, Nat.zero_le _, rfl, rfl, hid (Below.refl _ _), hid (.inl rfl)⟩
  case round =>
    obtain ⟨ka, ki, hka, hki, rfl, rfl, HBa, HST⟩ := hrel
    by_cases hlt : ki < l.length
    · have hki2 : ki < lo.length := by rw [HOL.out]; exact hlt
      obtain ⟨y, hy⟩ : ∃ y, lo[ki] = y := ⟨_, rfl⟩
      obtain ⟨go, offo, e2, hgo, hco⟩ := row_at (HOr.out w4 (Below.refl _ _)).1 (by omega)
      subst e2
      have HCO := hid hco
      clear hco
      have hgoa : go < wr.heap.size := Nat.lt_of_lt_of_le hgo HBa.out.size
      have i1 : (ki : Int) < (l.length : Int) := by omega
      have i0 : (0 : Int) ≤ (ki : Int) := by omega
      have y0 : wr.cell? ⟨go, offo + ki * 10, none⟩ = some (.int .i64 y.rank) := by
        have := (HBa.out.cell (p := ⟨go, offo + ki * 10 + 0, none⟩) hgo).trans (HCO.out ki hki2 0 (.int .i64 y.rank) (by rw [hy]; rfl))
        simpa using this
      have HUC := hid (fun w' (hb : Below w4.heap.size w4 w') (kp : Nat) (hp : kp < lo.length) => (show w'.cell? ⟨go, offo + kp * 10, none⟩ = some (.int .i64 lo[kp].rank) from by
        have := (hb.cell (p := ⟨go, offo + kp * 10 + 0, none⟩) hgo).trans (HCO.out kp hp 0 (.int .i64 lo[kp].rank) rfl)
        simpa using this))
      by_cases hz : ki = 0
      · have HS := hid (stands_new (l := l) (falls_core hoc.out) hki2 (.inl hz))
        have z0 : ¬ (0 : Int) < (ki : Int) := by omega
        have z1 : ((ki : Int) == 0) = true := by simp; omega
        have z2 : decide ((0 : Int) < (ki : Int)) = false := decide_eq_false z0
        have z3 : decide (0 < ki) = false := decide_eq_false (by omega)
        have z4 : ¬ 0 < ki := by omega
        clear HST hz
        go_wp2_with fail
        refine wp_region_bw (by kernel_rfl) (by kernel_rfl) ?_
        repeat (go_big_quiet_step (fail))
        refine wpQuiet_nil ?_
        rintro wb ⟨⟨_, hbb⟩, rfl⟩
        have HBb := hid (HBa.out.trans (hbb.mono HBa.out.size))
        clear hbb
        clear y0
        go_wp2_with fail
        refine wp_region_bw (by kernel_rfl) (by kernel_rfl) ?_
        repeat (go_big_quiet_step (fail))
        refine wpQuiet_nil ?_
        rintro wc ⟨⟨_, hbc⟩, rfl⟩
        have HBc := hid (HBb.out.trans (hbc.mono HBb.out.size))
        clear hbc
        clear z0 z1 z2 z3 z4
        go_wp2_with fail
        go_loopw [6] (fun av wr => ∃ ka : Nat, ka ≤ l.length ∧ av = .int .i64 ka ∧ Hid (Below w4.heap.size w4 wr) ∧ Hid (ofRank lo[ki].rank (l.take ka) = ofRank lo[ki].rank (lo.take ki))) (fun av _ => l.length - (intOf av).toNat)
        case atStart => exact ⟨0, by omega, rfl, HBc, HS⟩
        case round =>
          obtain ⟨kz, hkz, rfl, HBi, HSi⟩ := hrel
          clear HS HBc
          have hkl : kz < l.length := Nat.lt_of_not_le (stands_in hoc.out hki2 HSi.out)
          obtain ⟨x, hx⟩ : ∃ x, l[kz] = x := ⟨_, rfl⟩
          obtain ⟨b1, off1, e1, hb1l, hc1⟩ := row_at (HROW.out w4 HW4.out) (by omega)
          subst e1
          have c0 : wr.cell? ⟨b1, off1 + kz * 10, none⟩ = some (.int .i64 x.rank) := by
            have := (HBi.out.cell (p := ⟨b1, off1 + kz * 10 + 0, none⟩) hb1l).trans (hc1 kz hkl 0 (.int .i64 x.rank) (by rw [hx]; rfl))
            simpa using this
          have d0 : wr.cell? ⟨go, offo + ki * 10, none⟩ = some (.int .i64 y.rank) := by
            have := (HBi.out.cell (p := ⟨go, offo + ki * 10 + 0, none⟩) hgo).trans (HCO.out ki hki2 0 (.int .i64 y.rank) (by rw [hy]; rfl))
            simpa using this
          have hb1r : b1 < wr.heap.size := Nat.lt_of_lt_of_le hb1l HBi.out.size
          have hgor : go < wr.heap.size := Nat.lt_of_lt_of_le hgo HBi.out.size
          have j1 : (kz : Int) < (l.length : Int) := by omega
          have j2 : (ki : Int) < (l.length : Int) := by omega
          have j4 : decide (kz < l.length) = true := decide_eq_true hkl
          by_cases hr : x.rank = y.rank
          · have hq : (x.rank == y.rank) = true := by simp [hr]
            have hqn : (x.rank != y.rank) = false := by simp [hr]
            have HST := hid (stands_hit hoc.out hki2 HSi.out hkl (by rw [hx, hy]; exact hr))
            rw [hx, hy] at HST
            have HC1 := hid hc1
            have HXX := hid hx
            clear hc1 hx hr HSi
            go_wp2_with fail
            refine wp_region_bw (by kernel_rfl) (by kernel_rfl) ?_
            repeat (go_big_quiet_step (fail))
            refine wpQuiet_nil ?_
            rintro we ⟨⟨_, hbe⟩, rfl⟩
            have HBe := hid (HBi.out.trans (hbe.mono HBi.out.size))
            clear hbe
            clear c0 d0 hq hqn
            have X1 : Hid (∀ z : BW we, Calls Try.prog 56 #[.agg #[.int .i64 x.rank, .slice x.pa x.preds.length x.pcap, .string x.target, .int .i64 x.ap, .int .i64 x.as_, .int .i64 x.dp, .int .i64 x.dt, .int .i64 x.mp, .string x.mirror, .int .i64 x.sample], .agg #[.int .i64 y.rank, .slice y.pa y.preds.length y.pcap, .string y.target, .int .i64 y.ap, .int .i64 y.as_, .int .i64 y.dp, .int .i64 y.dt, .int .i64 y.mp, .string y.mirror, .int .i64 y.sample]] z.val fun e w' => e = .returned (.bool true) ∧ Below z.val.heap.size z.val w') := hid (fun z => by
              have hbb := HBe.out.trans (z.prop.mono HBe.out.size)
              have hxm : x ∈ l := by rw [← HXX.out]; exact List.getElem_mem _
              have hym : y ∈ lo := by rw [← hy]; exact List.getElem_mem _
              exact one_any x y true z.val ((HWF.out _ (HW4.out.trans (hbb.mono HW4.out.size)) x hxm).rows) (fun _ h => h) ((HOr.out _ hbb).2 y hym) (fun _ h => h) (Nat.le_trans (HP.out x hxm) (by decide)) (Nat.le_trans (HPO.out y hym) (by decide)) ((oneB_core x y).2 HST.out.1))
            obtain ⟨c0, c1, c2, c3, c4, c5, c6, c7, c8, c9⟩ := Rl.cells (fun j u hu => (HBe.out.cell (p := ⟨b1, off1 + kz * 10 + j, none⟩) hb1l).trans (HC1.out kz hkl j u (by rw [HXX.out]; exact hu)))
            obtain ⟨d0, d1, d2, d3, d4, d5, d6, d7, d8, d9⟩ := Rl.cells (fun j u hu => (HBe.out.cell (p := ⟨go, offo + ki * 10 + j, none⟩) hgo).trans (HCO.out ki hki2 j u (by rw [hy]; exact hu)))
            have hb1e : b1 < we.heap.size := Nat.lt_of_lt_of_le hb1l HBe.out.size
            have hgoe : go < we.heap.size := Nat.lt_of_lt_of_le hgo HBe.out.size
            have j3 : ((kz : Int) == (l.length : Int)) = false := by rw [beq_eq_false_iff_ne]; omega
            have j5 : (kz == l.length) = false := by rw [beq_eq_false_iff_ne]; omega
            have j6 : ¬ kz = l.length := by omega
            clear HC1 HXX
            go_wp2_with fail
            refine wp_region_bw (by kernel_rfl) (by kernel_rfl) ?_
            repeat (go_big_quiet_step ((go_at_call 56; exact bw_call (X1.out _))))
            refine wpQuiet_nil ?_
            rintro wf ⟨⟨_, hbf⟩, rfl⟩
            have HBf := hid (HBe.out.trans (hbf.mono HBe.out.size))
            clear hbf X1 c0 c1 c2 c3 c4 c5 c6 c7 c8 c9 d0 d1 d2 d3 d4 d5 d6 d7 d8 d9
            have HS2 := hid HST.out.2
            clear HST
            go_wp2_with fail
            go_roundw
            case rel => exact ⟨kz + 1, ki + 1, by omega, by omega, by go_num, by go_num, HBf, HS2⟩
            case measure => simp [intOf]; omega
          · have hq : (x.rank == y.rank) = false := by rw [beq_eq_false_iff_ne]; exact hr
            have hqn : (x.rank != y.rank) = true := by simp [hr]
            have HS2 := hid (stands_skip hki2 HSi.out hkl (by rw [hx, hy]; exact hr))
            clear hc1 hx hr HSi
            go_wp2_with fail
            refine wp_region_bw (by kernel_rfl) (by kernel_rfl) ?_
            repeat (go_big_quiet_step (fail))
            refine wpQuiet_nil ?_
            rintro we ⟨⟨_, hbe⟩, rfl⟩
            have HBe := hid (HBi.out.trans (hbe.mono HBi.out.size))
            clear hbe
            go_wp2_with fail
            go_roundw
            case rel => exact ⟨kz + 1, by omega, by go_num, HBe, HS2⟩
            case measure => simp [intOf]; omega
      · have hpi : ki - 1 < lo.length := by omega
        obtain ⟨u, hu⟩ : ∃ u, lo[ki - 1] = u := ⟨_, rfl⟩
        obtain ⟨kp, hkp⟩ : ∃ q, ki - 1 = q := ⟨_, rfl⟩
        have hw1 : IntKind.i64.wrap ((ki : Int) - 1) = (kp : Int) := by rw [IntKind.wrap_i64]; omega
        have z0 : (0 : Int) < (ki : Int) := by omega
        have z1 : ((ki : Int) == 0) = false := by rw [beq_eq_false_iff_ne]; omega
        have z2 : decide ((0 : Int) < (ki : Int)) = true := decide_eq_true z0
        have z3 : decide (0 < ki) = true := decide_eq_true (by omega)
        have z4 : 0 < ki := by omega
        have z5 : (ki == 0) = false := by rw [beq_eq_false_iff_ne]; omega
        have hde := falls_core hoc.out (ki - 1) ki hpi hki2 (by omega)
        rw [hy, hu] at hde
        have v0 : wr.cell? ⟨go, offo + kp * 10, none⟩ = some (.int .i64 u.rank) := by
          have := (HBa.out.cell (p := ⟨go, offo + (ki - 1) * 10 + 0, none⟩) hgo).trans (HCO.out (ki - 1) hpi 0 (.int .i64 u.rank) (by rw [hu]; rfl))
          rw [hkp] at this
          simpa using this
        have v1 : (0 : Int) ≤ (kp : Int) := by omega
        have v2 : (kp : Int) < (l.length : Int) := by omega
        have v3 : ¬ u.rank < y.rank := by omega
        have v4 : decide (u.rank < y.rank) = false := decide_eq_false v3
        have HSN : Hid (y.rank ≠ u.rank → ofRank lo[ki].rank (l.take 0) = ofRank lo[ki].rank (lo.take ki)) := hid (fun hne => stands_new (l := l) (falls_core hoc.out) hki2 (.inr ⟨hpi, by rw [hy, hu]; exact hne⟩))
        have HSO : Hid (y.rank = u.rank → ofRank lo[ki].rank (l.take ka) = ofRank lo[ki].rank (lo.take ki)) := hid (fun he => stands_old hki2 (by omega) HST.out (fun _ => by rw [hy, hu]; exact he))
        clear HST hde
        have HUC := hid (fun w' (hb : Below w4.heap.size w4 w') => HUC.out w' hb (ki - 1) hpi)
        rw [hu, hkp] at HUC
        clear hu hkp
        go_wp2_with fail
        refine wp_region_bw (by kernel_rfl) (by kernel_rfl) ?_
        repeat (go_big_quiet_step (fail))
        refine wpQuiet_nil ?_
        rintro wb ⟨⟨_, hbb⟩, rfl⟩
        have HBb := hid (HBa.out.trans (hbb.mono HBa.out.size))
        clear hbb
        clear y0 v0
        have y0 : wb.cell? ⟨go, offo + ki * 10, none⟩ = some (.int .i64 y.rank) := by
          have := (HBb.out.cell (p := ⟨go, offo + ki * 10 + 0, none⟩) hgo).trans (HCO.out ki hki2 0 (.int .i64 y.rank) (by rw [hy]; rfl))
          simpa using this
        have v0 : wb.cell? ⟨go, offo + kp * 10, none⟩ = some (.int .i64 u.rank) := HUC.out wb HBb.out
        have hgob : go < wb.heap.size := Nat.lt_of_lt_of_le hgo HBb.out.size
        by_cases hr : y.rank = u.rank
        · have HS := hid (HSO.out hr)
          have r1 : (y.rank == u.rank) = true := by simp [hr]
          have r2 : (y.rank != u.rank) = false := by simp [hr]
          clear HSN HSO hr
          go_wp2_with fail
          refine wp_region_bw (by kernel_rfl) (by kernel_rfl) ?_
          repeat (go_big_quiet_step (fail))
          refine wpQuiet_nil ?_
          rintro wc ⟨⟨_, hbc⟩, rfl⟩
          have HBc := hid (HBb.out.trans (hbc.mono HBb.out.size))
          clear hbc
          clear y0 v0 v1 v2 v3 v4 r1 r2 z0 z1 z2 z3 z4 z5 hw1 HUC hgob
          go_wp2_with fail
          go_loopw [6] (fun av wr => ∃ ka : Nat, ka ≤ l.length ∧ av = .int .i64 ka ∧ Hid (Below w4.heap.size w4 wr) ∧ Hid (ofRank lo[ki].rank (l.take ka) = ofRank lo[ki].rank (lo.take ki))) (fun av _ => l.length - (intOf av).toNat)
          case atStart => exact ⟨ka, by omega, rfl, HBc, HS⟩
          case round =>
            obtain ⟨kz, hkz, rfl, HBi, HSi⟩ := hrel
            clear HS HBc
            have hkl : kz < l.length := Nat.lt_of_not_le (stands_in hoc.out hki2 HSi.out)
            obtain ⟨x, hx⟩ : ∃ x, l[kz] = x := ⟨_, rfl⟩
            obtain ⟨b1, off1, e1, hb1l, hc1⟩ := row_at (HROW.out w4 HW4.out) (by omega)
            subst e1
            have c0 : wr.cell? ⟨b1, off1 + kz * 10, none⟩ = some (.int .i64 x.rank) := by
              have := (HBi.out.cell (p := ⟨b1, off1 + kz * 10 + 0, none⟩) hb1l).trans (hc1 kz hkl 0 (.int .i64 x.rank) (by rw [hx]; rfl))
              simpa using this
            have d0 : wr.cell? ⟨go, offo + ki * 10, none⟩ = some (.int .i64 y.rank) := by
              have := (HBi.out.cell (p := ⟨go, offo + ki * 10 + 0, none⟩) hgo).trans (HCO.out ki hki2 0 (.int .i64 y.rank) (by rw [hy]; rfl))
              simpa using this
            have hb1r : b1 < wr.heap.size := Nat.lt_of_lt_of_le hb1l HBi.out.size
            have hgor : go < wr.heap.size := Nat.lt_of_lt_of_le hgo HBi.out.size
            have j1 : (kz : Int) < (l.length : Int) := by omega
            have j2 : (ki : Int) < (l.length : Int) := by omega
            have j4 : decide (kz < l.length) = true := decide_eq_true hkl
            by_cases hr : x.rank = y.rank
            · have hq : (x.rank == y.rank) = true := by simp [hr]
              have hqn : (x.rank != y.rank) = false := by simp [hr]
              have HST := hid (stands_hit hoc.out hki2 HSi.out hkl (by rw [hx, hy]; exact hr))
              rw [hx, hy] at HST
              have HC1 := hid hc1
              have HXX := hid hx
              clear hc1 hx hr HSi
              go_wp2_with fail
              refine wp_region_bw (by kernel_rfl) (by kernel_rfl) ?_
              repeat (go_big_quiet_step (fail))
              refine wpQuiet_nil ?_
              rintro we ⟨⟨_, hbe⟩, rfl⟩
              have HBe := hid (HBi.out.trans (hbe.mono HBi.out.size))
              clear hbe
              clear c0 d0 hq hqn
              have X1 : Hid (∀ z : BW we, Calls Try.prog 56 #[.agg #[.int .i64 x.rank, .slice x.pa x.preds.length x.pcap, .string x.target, .int .i64 x.ap, .int .i64 x.as_, .int .i64 x.dp, .int .i64 x.dt, .int .i64 x.mp, .string x.mirror, .int .i64 x.sample], .agg #[.int .i64 y.rank, .slice y.pa y.preds.length y.pcap, .string y.target, .int .i64 y.ap, .int .i64 y.as_, .int .i64 y.dp, .int .i64 y.dt, .int .i64 y.mp, .string y.mirror, .int .i64 y.sample]] z.val fun e w' => e = .returned (.bool true) ∧ Below z.val.heap.size z.val w') := hid (fun z => by
                have hbb := HBe.out.trans (z.prop.mono HBe.out.size)
                have hxm : x ∈ l := by rw [← HXX.out]; exact List.getElem_mem _
                have hym : y ∈ lo := by rw [← hy]; exact List.getElem_mem _
                exact one_any x y true z.val ((HWF.out _ (HW4.out.trans (hbb.mono HW4.out.size)) x hxm).rows) (fun _ h => h) ((HOr.out _ hbb).2 y hym) (fun _ h => h) (Nat.le_trans (HP.out x hxm) (by decide)) (Nat.le_trans (HPO.out y hym) (by decide)) ((oneB_core x y).2 HST.out.1))
              obtain ⟨c0, c1, c2, c3, c4, c5, c6, c7, c8, c9⟩ := Rl.cells (fun j u hu => (HBe.out.cell (p := ⟨b1, off1 + kz * 10 + j, none⟩) hb1l).trans (HC1.out kz hkl j u (by rw [HXX.out]; exact hu)))
              obtain ⟨d0, d1, d2, d3, d4, d5, d6, d7, d8, d9⟩ := Rl.cells (fun j u hu => (HBe.out.cell (p := ⟨go, offo + ki * 10 + j, none⟩) hgo).trans (HCO.out ki hki2 j u (by rw [hy]; exact hu)))
              have hb1e : b1 < we.heap.size := Nat.lt_of_lt_of_le hb1l HBe.out.size
              have hgoe : go < we.heap.size := Nat.lt_of_lt_of_le hgo HBe.out.size
              have j3 : ((kz : Int) == (l.length : Int)) = false := by rw [beq_eq_false_iff_ne]; omega
              have j5 : (kz == l.length) = false := by rw [beq_eq_false_iff_ne]; omega
              have j6 : ¬ kz = l.length := by omega
              clear HC1 HXX
              go_wp2_with fail
              refine wp_region_bw (by kernel_rfl) (by kernel_rfl) ?_
              repeat (go_big_quiet_step ((go_at_call 56; exact bw_call (X1.out _))))
              refine wpQuiet_nil ?_
              rintro wf ⟨⟨_, hbf⟩, rfl⟩
              have HBf := hid (HBe.out.trans (hbf.mono HBe.out.size))
              clear hbf X1 c0 c1 c2 c3 c4 c5 c6 c7 c8 c9 d0 d1 d2 d3 d4 d5 d6 d7 d8 d9
              have HS2 := hid HST.out.2
              clear HST
              go_wp2_with fail
              go_roundw
              case rel => exact ⟨kz + 1, ki + 1, by omega, by omega, by go_num, by go_num, HBf, HS2⟩
              case measure => simp [intOf]; omega
            · have hq : (x.rank == y.rank) = false := by rw [beq_eq_false_iff_ne]; exact hr
              have hqn : (x.rank != y.rank) = true := by simp [hr]
              have HS2 := hid (stands_skip hki2 HSi.out hkl (by rw [hx, hy]; exact hr))
              clear hc1 hx hr HSi
              go_wp2_with fail
              refine wp_region_bw (by kernel_rfl) (by kernel_rfl) ?_
              repeat (go_big_quiet_step (fail))
              refine wpQuiet_nil ?_
              rintro we ⟨⟨_, hbe⟩, rfl⟩
              have HBe := hid (HBi.out.trans (hbe.mono HBi.out.size))
              clear hbe
              go_wp2_with fail
              go_roundw
              case rel => exact ⟨kz + 1, by omega, by go_num, HBe, HS2⟩
              case measure => simp [intOf]; omega
        · have HS := hid (HSN.out hr)
          have r1 : (y.rank == u.rank) = false := by rw [beq_eq_false_iff_ne]; exact hr
          have r2 : (y.rank != u.rank) = true := by simp [hr]
          clear HSN HSO hr
          go_wp2_with fail
          refine wp_region_bw (by kernel_rfl) (by kernel_rfl) ?_
          repeat (go_big_quiet_step (fail))
          refine wpQuiet_nil ?_
          rintro wc ⟨⟨_, hbc⟩, rfl⟩
          have HBc := hid (HBb.out.trans (hbc.mono HBb.out.size))
          clear hbc
          clear y0 v0 v1 v2 v3 v4 r1 r2 z0 z1 z2 z3 z4 z5 hw1 HUC hgob
          go_wp2_with fail
          go_loopw [6] (fun av wr => ∃ ka : Nat, ka ≤ l.length ∧ av = .int .i64 ka ∧ Hid (Below w4.heap.size w4 wr) ∧ Hid (ofRank lo[ki].rank (l.take ka) = ofRank lo[ki].rank (lo.take ki))) (fun av _ => l.length - (intOf av).toNat)
          case atStart => exact ⟨0, by omega, rfl, HBc, HS⟩
          case round =>
            obtain ⟨kz, hkz, rfl, HBi, HSi⟩ := hrel
            clear HS HBc
            have hkl : kz < l.length := Nat.lt_of_not_le (stands_in hoc.out hki2 HSi.out)
            obtain ⟨x, hx⟩ : ∃ x, l[kz] = x := ⟨_, rfl⟩
            obtain ⟨b1, off1, e1, hb1l, hc1⟩ := row_at (HROW.out w4 HW4.out) (by omega)
            subst e1
            have c0 : wr.cell? ⟨b1, off1 + kz * 10, none⟩ = some (.int .i64 x.rank) := by
              have := (HBi.out.cell (p := ⟨b1, off1 + kz * 10 + 0, none⟩) hb1l).trans (hc1 kz hkl 0 (.int .i64 x.rank) (by rw [hx]; rfl))
              simpa using this
            have d0 : wr.cell? ⟨go, offo + ki * 10, none⟩ = some (.int .i64 y.rank) := by
              have := (HBi.out.cell (p := ⟨go, offo + ki * 10 + 0, none⟩) hgo).trans (HCO.out ki hki2 0 (.int .i64 y.rank) (by rw [hy]; rfl))
              simpa using this
            have hb1r : b1 < wr.heap.size := Nat.lt_of_lt_of_le hb1l HBi.out.size
            have hgor : go < wr.heap.size := Nat.lt_of_lt_of_le hgo HBi.out.size
            have j1 : (kz : Int) < (l.length : Int) := by omega
            have j2 : (ki : Int) < (l.length : Int) := by omega
            have j4 : decide (kz < l.length) = true := decide_eq_true hkl
            by_cases hr : x.rank = y.rank
            · have hq : (x.rank == y.rank) = true := by simp [hr]
              have hqn : (x.rank != y.rank) = false := by simp [hr]
              have HST := hid (stands_hit hoc.out hki2 HSi.out hkl (by rw [hx, hy]; exact hr))
              rw [hx, hy] at HST
              have HC1 := hid hc1
              have HXX := hid hx
              clear hc1 hx hr HSi
              go_wp2_with fail
              refine wp_region_bw (by kernel_rfl) (by kernel_rfl) ?_
              repeat (go_big_quiet_step (fail))
              refine wpQuiet_nil ?_
              rintro we ⟨⟨_, hbe⟩, rfl⟩
              have HBe := hid (HBi.out.trans (hbe.mono HBi.out.size))
              clear hbe
              clear c0 d0 hq hqn
              have X1 : Hid (∀ z : BW we, Calls Try.prog 56 #[.agg #[.int .i64 x.rank, .slice x.pa x.preds.length x.pcap, .string x.target, .int .i64 x.ap, .int .i64 x.as_, .int .i64 x.dp, .int .i64 x.dt, .int .i64 x.mp, .string x.mirror, .int .i64 x.sample], .agg #[.int .i64 y.rank, .slice y.pa y.preds.length y.pcap, .string y.target, .int .i64 y.ap, .int .i64 y.as_, .int .i64 y.dp, .int .i64 y.dt, .int .i64 y.mp, .string y.mirror, .int .i64 y.sample]] z.val fun e w' => e = .returned (.bool true) ∧ Below z.val.heap.size z.val w') := hid (fun z => by
                have hbb := HBe.out.trans (z.prop.mono HBe.out.size)
                have hxm : x ∈ l := by rw [← HXX.out]; exact List.getElem_mem _
                have hym : y ∈ lo := by rw [← hy]; exact List.getElem_mem _
                exact one_any x y true z.val ((HWF.out _ (HW4.out.trans (hbb.mono HW4.out.size)) x hxm).rows) (fun _ h => h) ((HOr.out _ hbb).2 y hym) (fun _ h => h) (Nat.le_trans (HP.out x hxm) (by decide)) (Nat.le_trans (HPO.out y hym) (by decide)) ((oneB_core x y).2 HST.out.1))
              obtain ⟨c0, c1, c2, c3, c4, c5, c6, c7, c8, c9⟩ := Rl.cells (fun j u hu => (HBe.out.cell (p := ⟨b1, off1 + kz * 10 + j, none⟩) hb1l).trans (HC1.out kz hkl j u (by rw [HXX.out]; exact hu)))
              obtain ⟨d0, d1, d2, d3, d4, d5, d6, d7, d8, d9⟩ := Rl.cells (fun j u hu => (HBe.out.cell (p := ⟨go, offo + ki * 10 + j, none⟩) hgo).trans (HCO.out ki hki2 j u (by rw [hy]; exact hu)))
              have hb1e : b1 < we.heap.size := Nat.lt_of_lt_of_le hb1l HBe.out.size
              have hgoe : go < we.heap.size := Nat.lt_of_lt_of_le hgo HBe.out.size
              have j3 : ((kz : Int) == (l.length : Int)) = false := by rw [beq_eq_false_iff_ne]; omega
              have j5 : (kz == l.length) = false := by rw [beq_eq_false_iff_ne]; omega
              have j6 : ¬ kz = l.length := by omega
              clear HC1 HXX
              go_wp2_with fail
              refine wp_region_bw (by kernel_rfl) (by kernel_rfl) ?_
              repeat (go_big_quiet_step ((go_at_call 56; exact bw_call (X1.out _))))
              refine wpQuiet_nil ?_
              rintro wf ⟨⟨_, hbf⟩, rfl⟩
              have HBf := hid (HBe.out.trans (hbf.mono HBe.out.size))
              clear hbf X1 c0 c1 c2 c3 c4 c5 c6 c7 c8 c9 d0 d1 d2 d3 d4 d5 d6 d7 d8 d9
              have HS2 := hid HST.out.2
              clear HST
              go_wp2_with fail
              go_roundw
              case rel => exact ⟨kz + 1, ki + 1, by omega, by omega, by go_num, by go_num, HBf, HS2⟩
              case measure => simp [intOf]; omega
            · have hq : (x.rank == y.rank) = false := by rw [beq_eq_false_iff_ne]; exact hr
              have hqn : (x.rank != y.rank) = true := by simp [hr]
              have HS2 := hid (stands_skip hki2 HSi.out hkl (by rw [hx, hy]; exact hr))
              clear hc1 hx hr HSi
              go_wp2_with fail
              refine wp_region_bw (by kernel_rfl) (by kernel_rfl) ?_
              repeat (go_big_quiet_step (fail))
              refine wpQuiet_nil ?_
              rintro we ⟨⟨_, hbe⟩, rfl⟩
              have HBe := hid (HBi.out.trans (hbe.mono HBi.out.size))
              clear hbe
              go_wp2_with fail
              go_roundw
              case rel => exact ⟨kz + 1, by omega, by go_num, HBe, HS2⟩
              case measure => simp [intOf]; omega
    · obtain rfl : ki = l.length := by omega
      clear HST hlt
      go_wp2_with fail
      go_loopw [8, 9] (fun fv iv wr => ∃ ki : Nat, ki ≤ l.length ∧ iv = .int .i64 ki ∧ Hid (Below w4.heap.size w4 wr) ∧ ((fv = .int .i64 (-1) ∧ Hid (∀ j (_ : j < ki) (hj : j < lo.length), C11.allR m h p hs lo[j].preds = false)) ∨ ∃ n : Nat, n < l.length ∧ fv = .int .i64 n ∧ Hid (∃ hn : n < lo.length, C11.allR m h p hs lo[n].preds = true ∧ ∀ j (_ : j < n) (hj : j < lo.length), C11.allR m h p hs lo[j].preds = false))) (fun _ iv _ => l.length - (intOf iv).toNat)
      case atStart => exact ⟨0, Nat.zero_le _, rfl, HBa, .inl ⟨rfl, hid (fun j hj => absurd hj (Nat.not_lt_zero _))⟩⟩
      case round =>
        clear HBa
        obtain ⟨ki, hki, rfl, HBa, hst⟩ := hrel
        rcases hst with ⟨rfl, HNO⟩ | ⟨n, hnl, rfl, HHI⟩
        · by_cases hlt : ki < l.length
          · have hki2 : ki < lo.length := by rw [HOL.out]; exact hlt
            obtain ⟨y, hy⟩ : ∃ y, lo[ki] = y := ⟨_, rfl⟩
            obtain ⟨go, offo, e2, hgo, hco⟩ := row_at (HOr.out w4 (Below.refl _ _)).1 (by omega)
            subst e2
            obtain ⟨d0, d1, d2, d3, d4, d5, d6, d7, d8, d9⟩ := Rl.cells (fun j u hu => (HBa.out.cell (p := ⟨go, offo + ki * 10 + j, none⟩) hgo).trans (hco ki hki2 j u (by rw [hy]; exact hu)))
            have hxx := HX4.out.later HBa.out
            have x0 : wr.cell? ⟨W.heap.size, 0, none⟩ = some (.string m) := hxx.cell 0
            have x1 : wr.cell? ⟨W.heap.size, 1, none⟩ = some (.string h) := hxx.cell 1
            have x2 : wr.cell? ⟨W.heap.size, 2, none⟩ = some (.string p) := hxx.cell 2
            have x3 : wr.cell? ⟨W.heap.size, 3, none⟩ = some (.slice a0 hs.length cap0) := hxx.cell 3
            have x4 : wr.cell? ⟨W.heap.size, 4, none⟩ = some (.string b) := hxx.cell 4
            have hwr := hxx.lt
            have hgoa : go < wr.heap.size := Nat.lt_of_lt_of_le hgo HBa.out.size
            have hym : y ∈ lo := by rw [← hy]; exact List.getElem_mem _
            obtain ⟨qh, hqh⟩ : ∃ q, C11.allR m h p hs y.preds = q := ⟨_, rfl⟩
            have X1 : Hid (∀ z : BW wr, Calls Try.prog 49 #[.agg #[.int .i64 y.rank, .slice y.pa y.preds.length y.pcap, .string y.target, .int .i64 y.ap, .int .i64 y.as_, .int .i64 y.dp, .int .i64 y.dt, .int .i64 y.mp, .string y.mirror, .int .i64 y.sample], .agg #[.string m, .string h, .string p, .slice a0 hs.length cap0, .string b]] z.val fun e w' => e = .returned (.bool qh) ∧ Below z.val.heap.size z.val w') := hid (fun z => by
              have hbb := HBa.out.trans (z.prop.mono HBa.out.size)
              have hbW := HW4.out.trans (hbb.mono HW4.out.size)
              exact C16.hits_any y m h p b hs a0 cap0 qh z.val (wf_of_cores HWW.out hoc.out (HOr.out _ hbb).2 y hym) (HRV.out _ hbW) (Nat.le_refl _) HH.out (Nat.le_trans (HPO.out y hym) (by decide)) hqh)
            have j2 : (ki : Int) < (l.length : Int) := by omega
            have j0 : (0 : Int) ≤ (ki : Int) := by omega
            have HQH := hid hqh
            have HYY := hid hy
            clear hqh hym hxx hco hy
            cases qh
            · have HN2 := hid (show ∀ j (_ : j < ki + 1) (hj : j < lo.length), C11.allR m h p hs lo[j].preds = false from fun j hj hjl => by
                by_cases e : j = ki
                · subst e; rw [HYY.out]; exact HQH.out
                · exact HNO.out j (by omega) hjl)
              clear HNO HQH
              go_wp2_with fail
              refine wp_region_bw (by kernel_rfl) (by kernel_rfl) ?_
              repeat (go_big_quiet_step ((go_at_call 49; exact bw_call (X1.out _))))
              refine wpQuiet_nil ?_
              rintro wb ⟨⟨_, hbb⟩, rfl⟩
              have HBb := hid (HBa.out.trans (hbb.mono HBa.out.size))
              clear hbb X1 x0 x1 x2 x3 x4 d0 d1 d2 d3 d4 d5 d6 d7 d8 d9
              go_wp2_with fail
              go_roundw
              case rel => exact ⟨ki + 1, by omega, by go_num, HBb, .inl ⟨rfl, HN2⟩⟩
              case measure => simp [intOf]; omega
            · have HN2 : Hid (∃ hn : ki < lo.length, C11.allR m h p hs lo[ki].preds = true ∧ ∀ j (_ : j < ki) (hj : j < lo.length), C11.allR m h p hs lo[j].preds = false) := hid ⟨hki2, by rw [HYY.out]; exact HQH.out, HNO.out⟩
              clear HNO HQH
              go_wp2_with fail
              refine wp_region_bw (by kernel_rfl) (by kernel_rfl) ?_
              repeat (go_big_quiet_step ((go_at_call 49; exact bw_call (X1.out _))))
              refine wpQuiet_nil ?_
              rintro wb ⟨⟨_, hbb⟩, rfl⟩
              have HBb := hid (HBa.out.trans (hbb.mono HBa.out.size))
              clear hbb X1 x0 x1 x2 x3 x4 d0 d1 d2 d3 d4 d5 d6 d7 d8 d9
              go_wp2_with fail
              go_roundw
              case rel => exact ⟨ki + 1, by omega, by go_num, HBb, .inr ⟨ki, hlt, rfl, HN2⟩⟩
              case measure => simp [intOf]; omega
          · obtain rfl : ki = l.length := by omega
            have HFN := hid (found_none (hit := fun r => C11.allR m h p hs r.preds) (hit_core m h p hs) hoc.out (fun j hj => HNO.out j (by rw [← HOL.out]; exact hj) hj))
            obtain rfl : kk = -1 := HKK.out.symm.trans HFN.out.1
            have HBWa := hid (HW4.out.trans (HBa.out.mono HW4.out.size))
            have hxx := HX4.out.later HBa.out
            have x0 : wr.cell? ⟨W.heap.size, 0, none⟩ = some (.string m) := hxx.cell 0
            have x1 : wr.cell? ⟨W.heap.size, 1, none⟩ = some (.string h) := hxx.cell 1
            have x2 : wr.cell? ⟨W.heap.size, 2, none⟩ = some (.string p) := hxx.cell 2
            have x3 : wr.cell? ⟨W.heap.size, 3, none⟩ = some (.slice a0 hs.length cap0) := hxx.cell 3
            have x4 : wr.cell? ⟨W.heap.size, 4, none⟩ = some (.string b) := hxx.cell 4
            clear hxx HNO
            go_wp2_with fail
            refine (HO1.out wr HBWa.out HP.out HH.out).mono ?_
            rintro e wb ⟨rfl, hbb⟩
            have HBb := hid (HBa.out.trans (hbb.mono HBa.out.size))
            have HBWb := hid (HW4.out.trans (HBb.out.mono HW4.out.size))
            clear hbb x0 x1 x2 x3 x4
            have hxx := HX4.out.later HBb.out
            have x0 : wb.cell? ⟨W.heap.size, 0, none⟩ = some (.string m) := hxx.cell 0
            have x1 : wb.cell? ⟨W.heap.size, 1, none⟩ = some (.string h) := hxx.cell 1
            have x2 : wb.cell? ⟨W.heap.size, 2, none⟩ = some (.string p) := hxx.cell 2
            have x3 : wb.cell? ⟨W.heap.size, 3, none⟩ = some (.slice a0 hs.length cap0) := hxx.cell 3
            have x4 : wb.cell? ⟨W.heap.size, 4, none⟩ = some (.string b) := hxx.cell 4
            have XF := hid (first_any (.slice ao l.length co) lo m h p b hs a0 cap0 (-1) wb (HOr.out wb HBb.out).1 (wf_of_cores HWW.out hoc.out (HOr.out wb HBb.out).2) (HRV.out wb HBWb.out) HH.out (by rw [HOL.out]; omega) (fun r hr => Nat.le_trans (HPO.out r hr) (by decide)) HFN.out.2)
            clear hxx
            go_wp2_with fail
            refine XF.out.mono ?_
            rintro e wc ⟨rfl, hbc⟩
            have HBc := hid (HBWb.out.trans (hbc.mono HBWb.out.size))
            clear hbc x0 x1 x2 x3 x4
            go_wp2_with fail
            refine (HK.out _).mono ?_
            rintro e wd ⟨rfl, hbd⟩
            have HBd := hid (HBc.out.trans (hbd.mono HBc.out.size))
            clear hbd
            go_wp2_with fail
            go_ret
            exact ⟨rfl, HBd.out⟩
        · have HFS : Hid ((∃ k : Nat, ∃ hk : k < l.length, firstR (fun r => C11.allR m h p hs r.preds) l = k ∧ ∃ hn : n < lo.length, l[k].core = lo[n].core) ∧ firstR (fun r => C11.allR m h p hs r.preds) lo = n) := hid (by
            obtain ⟨hn, h1, h2⟩ := HHI.out
            obtain ⟨⟨k, hk, g1, g2⟩, g3⟩ := found_some (hit := fun r => C11.allR m h p hs r.preds) (hit_core m h p hs) hoc.out hn h1 h2
            exact ⟨⟨k, hk, g1, hn, g2⟩, g3⟩)
          obtain ⟨k, hkl, hk1, hn, hk2⟩ := HFS.out.1
          obtain rfl : kk = (k : Int) := HKK.out.symm.trans hk1
          have HBWa := hid (HW4.out.trans (HBa.out.mono HW4.out.size))
          have hxx := HX4.out.later HBa.out
          have x0 : wr.cell? ⟨W.heap.size, 0, none⟩ = some (.string m) := hxx.cell 0
          have x1 : wr.cell? ⟨W.heap.size, 1, none⟩ = some (.string h) := hxx.cell 1
          have x2 : wr.cell? ⟨W.heap.size, 2, none⟩ = some (.string p) := hxx.cell 2
          have x3 : wr.cell? ⟨W.heap.size, 3, none⟩ = some (.slice a0 hs.length cap0) := hxx.cell 3
          have x4 : wr.cell? ⟨W.heap.size, 4, none⟩ = some (.string b) := hxx.cell 4
          have n0 : ¬ (n : Int) < 0 := by omega
          have HK2 := hid hk2
          clear hxx hk1 hk2 HHI
          by_cases hlq : ki < l.length
          · skip
            go_wp2_with fail
            refine (HO1.out wr HBWa.out HP.out HH.out).mono ?_
            rintro e wb ⟨rfl, hbb⟩
            have HBb := hid (HBa.out.trans (hbb.mono HBa.out.size))
            have HBWb := hid (HW4.out.trans (HBb.out.mono HW4.out.size))
            clear hbb x0 x1 x2 x3 x4
            have hxx := HX4.out.later HBb.out
            have x0 : wb.cell? ⟨W.heap.size, 0, none⟩ = some (.string m) := hxx.cell 0
            have x1 : wb.cell? ⟨W.heap.size, 1, none⟩ = some (.string h) := hxx.cell 1
            have x2 : wb.cell? ⟨W.heap.size, 2, none⟩ = some (.string p) := hxx.cell 2
            have x3 : wb.cell? ⟨W.heap.size, 3, none⟩ = some (.slice a0 hs.length cap0) := hxx.cell 3
            have x4 : wb.cell? ⟨W.heap.size, 4, none⟩ = some (.string b) := hxx.cell 4
            have hwb := hxx.lt
            obtain ⟨x, hx⟩ : ∃ x, l[k] = x := ⟨_, rfl⟩
            obtain ⟨y, hy⟩ : ∃ y, lo[n] = y := ⟨_, rfl⟩
            rw [hx, hy] at HK2
            obtain ⟨go, offo, e2, hgo, hco⟩ := row_at (HOr.out w4 (Below.refl _ _)).1 (by omega)
            subst e2
            obtain ⟨b1, off1, e1, hb1l, hc1⟩ := row_at (HROW.out w4 HW4.out) (by omega)
            subst e1
            obtain ⟨c0, c1, c2, c3, c4, c5, c6, c7, c8, c9⟩ := Rl.cells (fun j u hu => (HBb.out.cell (p := ⟨b1, off1 + k * 10 + j, none⟩) hb1l).trans (hc1 k hkl j u (by rw [hx]; exact hu)))
            obtain ⟨d0, d1, d2, d3, d4, d5, d6, d7, d8, d9⟩ := Rl.cells (fun j u hu => (HBb.out.cell (p := ⟨go, offo + n * 10 + j, none⟩) hgo).trans (hco n hn j u (by rw [hy]; exact hu)))
            have hb1e : b1 < wb.heap.size := Nat.lt_of_lt_of_le hb1l HBb.out.size
            have hgoe : go < wb.heap.size := Nat.lt_of_lt_of_le hgo HBb.out.size
            have X1 : Hid (∀ z : BW wb, Calls Try.prog 56 #[.agg #[.int .i64 x.rank, .slice x.pa x.preds.length x.pcap, .string x.target, .int .i64 x.ap, .int .i64 x.as_, .int .i64 x.dp, .int .i64 x.dt, .int .i64 x.mp, .string x.mirror, .int .i64 x.sample], .agg #[.int .i64 y.rank, .slice y.pa y.preds.length y.pcap, .string y.target, .int .i64 y.ap, .int .i64 y.as_, .int .i64 y.dp, .int .i64 y.dt, .int .i64 y.mp, .string y.mirror, .int .i64 y.sample]] z.val fun e w' => e = .returned (.bool true) ∧ Below z.val.heap.size z.val w') := hid (fun z => by
              have hbb := HBb.out.trans (z.prop.mono HBb.out.size)
              have hxm : x ∈ l := by rw [← hx]; exact List.getElem_mem _
              have hym : y ∈ lo := by rw [← hy]; exact List.getElem_mem _
              exact one_any x y true z.val ((HWF.out _ (HW4.out.trans (hbb.mono HW4.out.size)) x hxm).rows) (fun _ h => h) ((HOr.out _ hbb).2 y hym) (fun _ h => h) (Nat.le_trans (HP.out x hxm) (by decide)) (Nat.le_trans (HPO.out y hym) (by decide)) ((oneB_core x y).2 HK2.out))
            have X2 : Hid (∀ z : BW wb, Calls Try.prog 54 #[.slice (some ⟨go, offo, none⟩) l.length co, .agg #[.string m, .string h, .string p, .slice a0 hs.length cap0, .string b]] z.val fun e w' => e = .returned (.int .i64 n) ∧ Below z.val.heap.size z.val w') := hid (fun z => by
              have hbb := HBb.out.trans (z.prop.mono HBb.out.size)
              have hbW := HW4.out.trans (hbb.mono HW4.out.size)
              exact first_any _ lo m h p b hs a0 cap0 n z.val (HOr.out _ hbb).1 (wf_of_cores HWW.out hoc.out (HOr.out _ hbb).2) (HRV.out _ hbW) HH.out (by rw [HOL.out]; omega) (fun r hr => Nat.le_trans (HPO.out r hr) (by decide)) HFS.out.2)
            have k0 : (0 : Int) ≤ (k : Int) := by omega
            have k1 : (k : Int) < (l.length : Int) := by omega
            have n1 : (0 : Int) ≤ (n : Int) := by omega
            have n2 : (n : Int) < (l.length : Int) := by omega
            have n3 : ((n : Int) == (n : Int)) = true := by simp
            clear hxx hco hc1 hx hy
            go_wp2_with fail
            refine wp_region_bw (by kernel_rfl) (by kernel_rfl) ?_
            repeat (go_big_quiet_step ((first | (go_at_call 56; exact bw_call (X1.out _)) | (go_at_call 54; exact bw_call (X2.out _)) | (go_at_call 44; exact bw_call (HK.out _)))))
            refine wpQuiet_nil ?_
            rintro wc ⟨⟨_, hbc⟩, rfl⟩
            have HBc := hid (HBWb.out.trans (hbc.mono HBWb.out.size))
            clear hbc
            go_wp2_with fail
            go_ret
            exact ⟨rfl, HBc.out⟩
          · skip
            go_wp2_with fail
            refine (HO1.out wr HBWa.out HP.out HH.out).mono ?_
            rintro e wb ⟨rfl, hbb⟩
            have HBb := hid (HBa.out.trans (hbb.mono HBa.out.size))
            have HBWb := hid (HW4.out.trans (HBb.out.mono HW4.out.size))
            clear hbb x0 x1 x2 x3 x4
            have hxx := HX4.out.later HBb.out
            have x0 : wb.cell? ⟨W.heap.size, 0, none⟩ = some (.string m) := hxx.cell 0
            have x1 : wb.cell? ⟨W.heap.size, 1, none⟩ = some (.string h) := hxx.cell 1
            have x2 : wb.cell? ⟨W.heap.size, 2, none⟩ = some (.string p) := hxx.cell 2
            have x3 : wb.cell? ⟨W.heap.size, 3, none⟩ = some (.slice a0 hs.length cap0) := hxx.cell 3
            have x4 : wb.cell? ⟨W.heap.size, 4, none⟩ = some (.string b) := hxx.cell 4
            have hwb := hxx.lt
            obtain ⟨x, hx⟩ : ∃ x, l[k] = x := ⟨_, rfl⟩
            obtain ⟨y, hy⟩ : ∃ y, lo[n] = y := ⟨_, rfl⟩
            rw [hx, hy] at HK2
            obtain ⟨go, offo, e2, hgo, hco⟩ := row_at (HOr.out w4 (Below.refl _ _)).1 (by omega)
            subst e2
            obtain ⟨b1, off1, e1, hb1l, hc1⟩ := row_at (HROW.out w4 HW4.out) (by omega)
            subst e1
            obtain ⟨c0, c1, c2, c3, c4, c5, c6, c7, c8, c9⟩ := Rl.cells (fun j u hu => (HBb.out.cell (p := ⟨b1, off1 + k * 10 + j, none⟩) hb1l).trans (hc1 k hkl j u (by rw [hx]; exact hu)))
            obtain ⟨d0, d1, d2, d3, d4, d5, d6, d7, d8, d9⟩ := Rl.cells (fun j u hu => (HBb.out.cell (p := ⟨go, offo + n * 10 + j, none⟩) hgo).trans (hco n hn j u (by rw [hy]; exact hu)))
            have hb1e : b1 < wb.heap.size := Nat.lt_of_lt_of_le hb1l HBb.out.size
            have hgoe : go < wb.heap.size := Nat.lt_of_lt_of_le hgo HBb.out.size
            have X1 : Hid (∀ z : BW wb, Calls Try.prog 56 #[.agg #[.int .i64 x.rank, .slice x.pa x.preds.length x.pcap, .string x.target, .int .i64 x.ap, .int .i64 x.as_, .int .i64 x.dp, .int .i64 x.dt, .int .i64 x.mp, .string x.mirror, .int .i64 x.sample], .agg #[.int .i64 y.rank, .slice y.pa y.preds.length y.pcap, .string y.target, .int .i64 y.ap, .int .i64 y.as_, .int .i64 y.dp, .int .i64 y.dt, .int .i64 y.mp, .string y.mirror, .int .i64 y.sample]] z.val fun e w' => e = .returned (.bool true) ∧ Below z.val.heap.size z.val w') := hid (fun z => by
              have hbb := HBb.out.trans (z.prop.mono HBb.out.size)
              have hxm : x ∈ l := by rw [← hx]; exact List.getElem_mem _
              have hym : y ∈ lo := by rw [← hy]; exact List.getElem_mem _
              exact one_any x y true z.val ((HWF.out _ (HW4.out.trans (hbb.mono HW4.out.size)) x hxm).rows) (fun _ h => h) ((HOr.out _ hbb).2 y hym) (fun _ h => h) (Nat.le_trans (HP.out x hxm) (by decide)) (Nat.le_trans (HPO.out y hym) (by decide)) ((oneB_core x y).2 HK2.out))
            have X2 : Hid (∀ z : BW wb, Calls Try.prog 54 #[.slice (some ⟨go, offo, none⟩) l.length co, .agg #[.string m, .string h, .string p, .slice a0 hs.length cap0, .string b]] z.val fun e w' => e = .returned (.int .i64 n) ∧ Below z.val.heap.size z.val w') := hid (fun z => by
              have hbb := HBb.out.trans (z.prop.mono HBb.out.size)
              have hbW := HW4.out.trans (hbb.mono HW4.out.size)
              exact first_any _ lo m h p b hs a0 cap0 n z.val (HOr.out _ hbb).1 (wf_of_cores HWW.out hoc.out (HOr.out _ hbb).2) (HRV.out _ hbW) HH.out (by rw [HOL.out]; omega) (fun r hr => Nat.le_trans (HPO.out r hr) (by decide)) HFS.out.2)
            have k0 : (0 : Int) ≤ (k : Int) := by omega
            have k1 : (k : Int) < (l.length : Int) := by omega
            have n1 : (0 : Int) ≤ (n : Int) := by omega
            have n2 : (n : Int) < (l.length : Int) := by omega
            have n3 : ((n : Int) == (n : Int)) = true := by simp
            clear hxx hco hc1 hx hy
            go_wp2_with fail
            refine wp_region_bw (by kernel_rfl) (by kernel_rfl) ?_
            repeat (go_big_quiet_step ((first | (go_at_call 56; exact bw_call (X1.out _)) | (go_at_call 54; exact bw_call (X2.out _)) | (go_at_call 44; exact bw_call (HK.out _)))))
            refine wpQuiet_nil ?_
            rintro wc ⟨⟨_, hbc⟩, rfl⟩
            have HBc := hid (HBWb.out.trans (hbc.mono HBWb.out.size))
            clear hbc
            go_wp2_with fail
            go_ret
            exact ⟨rfl, HBc.out⟩
end C12
end Go.Proofs.Ytmmmaldpalhjeaa
