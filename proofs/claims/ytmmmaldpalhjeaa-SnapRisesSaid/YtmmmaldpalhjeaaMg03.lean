/- Walks of layer 4 (head): headers without some names; no condition. Walks of layer 4 (head): headers without some names (slices.DeleteFunc); no condition. Walks of layer 4 (head): headers without some names, with just one of a name; no condition. Walks of layer 4 (head): Set; the reference's Without and Set; no condition. Walks of layer 4 (head): headers with just one of a name; no condition. Walks of layer 4 (head): the reference's Set; lists alike; few headers; no condition. Walks of layer 4 (head): lists alike; few headers; no condition. Readings of slices, whatever is known of their blocks; lists of headers, of texts, alike; no condition. Walks of layer 4 (head): the laws; no condition. Walks of layer 5 and 11: bytes between two; methods; no condition. Walks of layer 5 and 11: beginnings of texts, methods and paths of the program; no condition. Walks of layer 5 and 11: requests of which one thing is told; no condition. Walks of layer 11 (pred): all kinds; no condition. -/
import Derived.Test.YtmmmaldpalhjeaaMg02
import Derived.Deep.DrawnRows
namespace Go.Peri
namespace Hd
def hasN (ns : List ByteArray) (h : Hd) : Bool := ns.any (fun x => decide (x = h.name))
def ixN (l : List Hd) (ns : List ByteArray) : Nat := l.findIdx (hasN ns)
def atN (l : List Hd) (ns : List ByteArray) : Int := if ixN l ns < l.length then ixN l ns else -1
theorem outR_hasN (l : List Hd) (ns : List ByteArray) : outR l ns = l.filter (fun h => !hasN ns h) := rfl
theorem ixN_hit {l : List Hd} {ns : List ByteArray} {k : Nat} (hk : k < l.length) (h1 : hasN ns l[k] = true) (h2 : ∀ j (_ : j < k) (hj : j < l.length), hasN ns l[j] = false) : ixN l ns = k := by
  unfold ixN
  rw [List.findIdx_eq hk]
  exact ⟨h1, fun j hj => by simpa using h2 j hj (by omega)⟩
theorem ixN_none {l : List Hd} {ns : List ByteArray} (h2 : ∀ j (_ : j < l.length) (hj : j < l.length), hasN ns l[j] = false) : ¬ ixN l ns < l.length := by
  intro h
  have := List.findIdx_getElem (w := h)
  have h3 := h2 _ h h
  unfold ixN at h3
  rw [this] at h3
  exact absurd h3 (by simp)
theorem out_none {l : List Hd} {ns : List ByteArray} (h : ¬ ixN l ns < l.length) : outR l ns = l := by
  rw [outR_hasN, List.filter_eq_self]
  intro x hx
  have hl : ixN l ns = l.length := by have : ixN l ns ≤ l.length := List.findIdx_le_length; omega
  obtain ⟨i, hi, rfl⟩ := List.getElem_of_mem hx
  have := List.not_of_lt_findIdx (p := hasN ns) (xs := l) (i := i) (by unfold ixN at hl; omega)
  simpa using this
theorem out_first {l : List Hd} {ns : List ByteArray} (h : ixN l ns < l.length) : outR (l.take (ixN l ns + 1)) ns = l.take (ixN l ns) := by
  have hit : hasN ns l[ixN l ns] = true := List.findIdx_getElem (w := h)
  rw [List.take_succ_eq_append_getElem h, outR_snoc]
  have : (ns.any fun x => decide (x = l[ixN l ns].name)) = true := hit
  rw [if_pos this, outR_hasN, List.filter_eq_self]
  intro x hx
  obtain ⟨i, hi, rfl⟩ := List.getElem_of_mem hx
  rw [List.length_take] at hi
  rw [List.getElem_take]
  have := List.not_of_lt_findIdx (p := hasN ns) (xs := l) (i := i) (by unfold ixN at hi; omega)
  simpa using this
end Hd
end Go.Peri
namespace Go.Proofs.Ytmmmaldpalhjeaa
open Go.RowKit Go.Peri
namespace C04
theorem s_cell {w : World} {b off : Nat} {l : List ByteArray} (hc : ∀ i (hi : i < l.length) j u, (sEnc l[i])[j]? = some u → w.cell? ⟨b, off + i * 1 + j, none⟩ = some u) (k : Nat) (hk : k < l.length) : w.cell? ⟨b, off + k, none⟩ = some (.string l[k]) := by
  have := hc k hk 0 _ rfl
  simpa using this

set_option maxRecDepth 100000 in
theorem contains_any {p : Nat → Prop} (v : Value) (ns : List ByteArray) (s : ByteArray) (r : Bool) (W : World) (h : RowsOf p sEnc 1 W v ns) (hl : ns.length ≤ 1000000000000) (hr : ns.any (fun x => decide (x = s)) = r) :
    Calls Try.prog 100 #[v, .string s] W fun e w' => e = .returned (.bool r) ∧ W = w' := by
  have HIX : Hid (Calls Try.prog 153 #[v, .string s] W fun e w' => (∃ i : Int, e = .returned (.int .i64 i) ∧ (0 ≤ i ↔ r = true) ∧ -1 ≤ i ∧ i ≤ 1000000000000) ∧ W = w') := by
    show Calls _ _ _ _ _
    obtain ⟨a, cap, rfl, hlc, hcm, _, hcell⟩ := h
    have HC := hid hcell
    have HR := hid hr
    clear hcell hr
    go_enter Try.func153, Try.ntmps153
    go_wp2_with fail
    go_loopw [8] (fun i wr => W = wr ∧ ∃ k : Nat, k ≤ ns.length ∧ i = .int .i64 k ∧ ∀ j (_ : j < k) (hj : j < ns.length), ns[j] ≠ s) (fun i _ => ns.length - (intOf i).toNat)
    case atStart => exact ⟨rfl, 0, Nat.zero_le _, rfl, fun j hj => absurd hj (Nat.not_lt_zero _)⟩
    case round =>
      obtain ⟨rfl, k, hk, rfl, hno⟩ := hrel
      have HN := hid hno
      clear hno
      by_cases hlt : k < ns.length
      · obtain ⟨b, off, rfl, hpb, hc⟩ := HC.out.resolve_left (by intro e; rw [e] at hlt; simp at hlt)
        have c0 := s_cell hc k hlt
        obtain ⟨bq, hq⟩ : ∃ bq, decide (s = ns[k]) = bq := ⟨_, rfl⟩
        obtain ⟨s1, s2⟩ := strEq_of hq
        have HNext : Hid (bq = false → ∀ j (_ : j < k + 1) (hj : j < ns.length), ns[j] ≠ s) := by
          intro e j hj hjl
          by_cases e2 : j = k
          · subst e2; rw [e] at hq; exact fun h => of_decide_eq_false hq h.symm
          · exact HN.out j (by omega) hjl
        have HHit : Hid (bq = true → r = true) := fun e => by
          rw [e] at hq
          rw [← HR.out, List.any_eq_true]
          exact ⟨ns[k], List.getElem_mem hlt, by simpa using (of_decide_eq_true hq).symm⟩
        clear hc hq
        generalize ns[k] = y at c0 s1 s2
        cases bq
        · go_wp2_with fail
          go_roundw
          case rel => exact ⟨by first | rfl | trivial, k + 1, by omega, by go_num, HNext.out (by simp)⟩
          case measure => simp [intOf]; omega
        · go_wp2_with fail
          go_ret
          exact ⟨⟨k, rfl, by simp [HHit.out (by simp)], by omega, by omega⟩, rfl⟩
      · obtain rfl : k = ns.length := by omega
        have hd : Hid (r = false) := hid (by
          rw [← HR.out, List.any_eq_false]
          intro x hx
          obtain ⟨i, hi, rfl⟩ := List.getElem_of_mem hx
          simpa using HN.out i hi hi)
        go_wp2_with fail
        go_ret
        exact ⟨⟨-1, rfl, by simp [hd.out], by omega, by omega⟩, rfl⟩
  clear h hr
  go_enter Try.func100, Try.ntmps100
  go_wp2_with fail
  refine HIX.out.mono ?_
  rintro e w' ⟨⟨i, rfl, hi, _, _⟩, rfl⟩
  have HI := hid hi
  clear hi
  by_cases h0 : 0 ≤ i
  · have hr := hid (HI.out.1 h0)
    go_wp2_with fail
    go_ret
    exact ⟨by rw [hr.out]; rfl, rfl⟩
  · have hr : Hid (r = false) := hid (by
      cases r
      · rfl
      · exact absurd (HI.out.2 rfl) h0)
    go_wp2_with fail
    go_ret
    exact ⟨by rw [hr.out]; exact ret_bool (decide_eq_false (by omega)), rfl⟩

end C04
end Go.Proofs.Ytmmmaldpalhjeaa
namespace Go.Proofs.Ytmmmaldpalhjeaa
open Go.RowKit Go.Peri
namespace C04
theorem row2 {w : World} {g : Nat} {cs : Array Value} {t : TypeId} (h : Blk w g cs t) {l : List Hd} {lo hi : Nat} (hx : ∀ q, lo ≤ q → q < hi → cs[q]? = (l.flatMap Hd.enc)[q]?) (k : Nat) (hk : k < l.length) (h1 : lo ≤ k * 2) (h2 : k * 2 + 1 < hi) :
    w.cell? ⟨g, k * 2, none⟩ = some (.string l[k].name) ∧ w.cell? ⟨g, k * 2 + 1, none⟩ = some (.string l[k].value) := by
  refine ⟨?_, ?_⟩
  · rw [h.cell, hx _ h1 (by omega)]
    have := flat_get Hd.enc_length l k hk 0 (by omega)
    rw [Nat.add_zero] at this
    rw [this]; rfl
  · rw [h.cell, hx _ (by omega) h2, flat_get Hd.enc_length l k hk 1 (by omega)]; rfl
/-- A row half worked on: its first places hold A, those from k on what they held. -/
structure Half (g cap m k : Nat) (A l : List Hd) (w : World) : Prop where
  ex : ∃ cs, Blk w g cs 154 ∧ cs.size = cap * 2 ∧ (∀ q, q < m * 2 → cs[q]? = (A.flatMap Hd.enc)[q]?) ∧ (∀ q, k * 2 ≤ q → q < l.length * 2 → cs[q]? = (l.flatMap Hd.enc)[q]?)
  len : A.length = m
theorem Half.set {g cap m k : Nat} {A l : List Hd} {w w' : World} {x : Hd} {cs : Array Value} (hb : Blk w g cs 154) (hs : cs.size = cap * 2) (h1 : ∀ q, q < m * 2 → cs[q]? = (A.flatMap Hd.enc)[q]?) (h2 : ∀ q, k * 2 ≤ q → q < l.length * 2 → cs[q]? = (l.flatMap Hd.enc)[q]?) (hA : A.length = m) (hmk : m < k) (hkc : k ≤ cap)
    (hw : w' = (w.setCell ⟨g, m * 2, none⟩ (.string x.name)).setCell ⟨g, m * 2 + 1, none⟩ (.string x.value)) : Half g cap (m + 1) (k + 1) (A ++ [x]) l w' := by
  subst hw
  refine ⟨⟨_, (hb.set _ _).set _ _, by simpa using hs, fun q hq => ?_, fun q hq hq2 => ?_⟩, by simp [hA]⟩
  · rw [Array.getElem?_setIfInBounds, Array.getElem?_setIfInBounds, List.flatMap_append, List.getElem?_append, flat_length Hd.enc_length, hA]
    by_cases e1 : m * 2 + 1 = q
    · subst e1
      rw [if_pos rfl, if_pos (by simp; omega), if_neg (by omega)]
      have : m * 2 + 1 - m * 2 = 1 := by omega
      rw [this]; rfl
    · rw [if_neg e1]
      by_cases e2 : m * 2 = q
      · subst e2
        rw [if_pos rfl, if_pos (by omega), if_neg (by omega), Nat.sub_self]; rfl
      · rw [if_neg e2, if_pos (by omega)]
        exact h1 q (by omega)
  · rw [Array.getElem?_setIfInBounds, Array.getElem?_setIfInBounds, if_neg (by omega), if_neg (by omega)]
    exact h2 q (by omega) hq2
def DelQ (base g cap : Nat) (A : List Hd) (w : World) (e : Ending) (w' : World) : Prop := e = .returned (.slice (some ⟨g, 0, none⟩) A.length cap) ∧ Only [g] w w' ∧ Hid (w'.ownsRow base 154 2 (.slice (some ⟨g, 0, none⟩) A.length cap) A.length (A.flatMap Hd.enc))
end C04
end Go.Proofs.Ytmmmaldpalhjeaa
namespace Go.Proofs.Ytmmmaldpalhjeaa
open Go.RowKit Go.Peri
namespace C04
end C04
end Go.Proofs.Ytmmmaldpalhjeaa
namespace Go.Proofs.Ytmmmaldpalhjeaa
open Go.RowKit Go.Peri
namespace C04
theorem owns_below {w w' : World} {base : Nat} {e : TypeId} {size : Nat} {v : Value} {n : Nat} {xs : List Value} (h : w.ownsRow base e size v n xs) (hb : Below w.heap.size w w') : w'.ownsRow base e size v n xs :=
  owns_keep h (Only.of_below hb : Only [] w w') (fun k _ hk => by simp at hk)
theorem any_snoc (ns : List ByteArray) (s : ByteArray) (q : Nat) (hq : q < ns.length) : (ns.take (q + 1)).any (fun x => decide (x = s)) = ((ns.take q).any (fun x => decide (x = s)) || decide (ns[q] = s)) := by
  rw [List.take_succ_eq_append_getElem hq, List.any_append]
  simp
end C04
end Go.Proofs.Ytmmmaldpalhjeaa
namespace Go.Peri
open Go.RowKit
theorem RowsOf.takeN {α : Type} {p : Nat → Prop} {enc : α → List Value} {k : Nat} {w : World} {a : Option Addr} {n cap : Nat} {l : List α} (h : RowsOf p enc k w (.slice a n cap) l) (m : Nat) (hm : m ≤ n) : RowsOf p enc k w (.slice a m cap) (l.take m) := by
  obtain ⟨a', cap', e, h2, h3, h4, h5⟩ := h
  cases e
  refine ⟨a, cap, ?_, by rw [List.length_take]; omega, h3, h4, ?_⟩
  · rw [List.length_take, Nat.min_eq_left hm]
  · refine h5.imp (fun e => by rw [e]; simp) ?_
    rintro ⟨b, off, g1, g2, g3⟩
    refine ⟨b, off, g1, g2, fun i hi j u hu => ?_⟩
    rw [List.length_take] at hi
    rw [List.getElem_take] at hu
    exact g3 i (by omega) j u hu
theorem RowsOf.dropN {α : Type} {p : Nat → Prop} {enc : α → List Value} {k : Nat} {w : World} {b off n cap : Nat} {l : List α} (h : RowsOf p enc k w (.slice (some ⟨b, off, none⟩) n cap) l) (m : Nat) (hm : m ≤ n) : RowsOf p enc k w (.slice (some ⟨b, off + m * k, none⟩) (n - m) (cap - m)) (l.drop m) := by
  obtain ⟨a', cap', e, h2, h3, h4, h5⟩ := h
  cases e
  refine ⟨_, _, by rw [List.length_drop], by rw [List.length_drop]; omega, by omega, by simp, ?_⟩
  refine h5.imp (fun e => by rw [e]; simp) ?_
  rintro ⟨b', off', g1, g2, g3⟩
  cases g1
  refine ⟨b, off + m * k, rfl, g2, fun i hi j u hu => ?_⟩
  rw [List.length_drop] at hi
  rw [List.getElem_drop] at hu
  have := g3 (m + i) (by omega) j u hu
  rw [← this]
  congr 2
  rw [Nat.add_mul]
  omega
end Go.Peri
namespace Go.Proofs.Ytmmmaldpalhjeaa
open Go.RowKit Go.Peri
namespace C04
end C04
end Go.Proofs.Ytmmmaldpalhjeaa
namespace Go.Proofs.Ytmmmaldpalhjeaa
open Go.RowKit Go.Peri
namespace C04
def metB (l : List Hd) (n : ByteArray) (k : Nat) : Bool := decide (Hd.ix (l.take k) n < (l.take k).length)
end C04
end Go.Proofs.Ytmmmaldpalhjeaa
namespace Go.Peri
namespace Hd
def fewB (h : Hd) : Bool := decide (h.name.size + h.value.size ≤ 400)
def few (l : List Hd) : Bool := decide (l.length ≤ 60) && l.all fewB
theorem few_len {l : List Hd} (h : few l = true) : l.length ≤ 60 := by
  unfold few at h
  rw [Bool.and_eq_true] at h
  exact of_decide_eq_true h.1
theorem few_mem {l : List Hd} (h : few l = true) : ∀ x ∈ l, x.name.size + x.value.size ≤ 400 := by
  unfold few at h
  rw [Bool.and_eq_true, List.all_eq_true] at h
  exact fun x hx => of_decide_eq_true (h.2 x hx)
end Hd
end Go.Peri
namespace Go.Proofs.Ytmmmaldpalhjeaa
open Go.RowKit Go.Peri
namespace C04
theorem eqHd (a b : Hd) (w : World) : (Op.equalIn 10000 154 (.agg #[.string a.name, .string a.value]) (.agg #[.string b.name, .string b.value])).run Try.prog w = .ok (decide (a = b)) w := by
  rw [show (10000 : Nat) = 9999 + 1 from rfl, run_equalIn_struct w 9999 154 _ _ (by kernel_rfl) (by kernel_rfl)]
  simp only [Program.fieldsOf, Try.underlying154, Op.eqFields]
  go_simp
  have inj : ∀ x y : ByteArray, x.toList = y.toList → x = y := fun x y h => Go.WideShapes.bytes_inj (by rw [← ByteArray.toList_eq, ← ByteArray.toList_eq, h])
  by_cases h : a = b
  · subst h; simp
  · rw [decide_eq_false h]
    have ext : a.name.toList = b.name.toList → a.value.toList = b.value.toList → a = b := by
      intro h1 h2
      have h1 := inj _ _ h1
      have h2 := inj _ _ h2
      obtain ⟨⟩ := a
      obtain ⟨⟩ := b
      simp_all
    repeat' (split <;> try rfl)
    all_goals exact absurd (ext (by assumption) (by assumption)) h

set_option maxRecDepth 100000 in
theorem texts_any {p q : Nat → Prop} (u v : Value) (l m : List ByteArray) (r : Bool) (W : World) (h : RowsOf p sEnc 1 W u l) (hp : ∀ b, p b → b < W.heap.size) (h2 : RowsOf q sEnc 1 W v m) (hq : ∀ b, q b → b < W.heap.size) (hl : l.length ≤ 1000000000000) (hm : m.length ≤ 1000000000000)
    (hr : decide (l = m) = r) :
    Calls Try.prog 21 #[u, v] W fun e w' => e = .returned (.bool r) ∧ Below W.heap.size W w' := by
  obtain ⟨a, cap, rfl, hlc, hcm, _, hcell⟩ := h
  obtain ⟨a2, cap2, rfl, hlc2, hcm2, _, hcell2⟩ := h2
  have HP := hid hp
  have HQ := hid hq
  have HC := hid hcell
  have HC2 := hid hcell2
  have HR := hid hr
  clear hp hq hcell hcell2 hr
  by_cases hlen : l.length = m.length
  · have HLEN := hid hlen
    have hle2 : ((l.length : Int) == (m.length : Int)) = true := by simp [hlen]
    have hle3 : ((m.length : Int) == (m.length : Int)) = true := by simp
    generalize hn : l.length = n at hlen hlc hl HLEN hle2
    have HN := hid hn
    clear hn
    subst hlen
    go_enter Try.func21, Try.ntmps21
    go_wp2_with fail
    go_loopw [5] (fun i wr => ∃ k : Nat, k ≤ m.length ∧ i = .int .i64 k ∧ Below W.heap.size W wr ∧ ∀ j (_ : j < k) (h1 : j < l.length) (h2 : j < m.length), l[j] = m[j]) (fun i _ => m.length - (intOf i).toNat)
    case atStart => exact ⟨0, Nat.zero_le _, rfl, Below.refl _ _, fun j hj => absurd hj (Nat.not_lt_zero _)⟩
    case round =>
      obtain ⟨k, hk, rfl, hb, hno⟩ := hrel
      have HB := hid hb
      have HE := hid hno
      clear hb hno
      by_cases hlt : k < m.length
      · have hlt1 : k < l.length := by rw [HN.out]; exact hlt
        obtain ⟨b, off, rfl, hpb, hc⟩ := HC.out.resolve_left (by intro e; rw [e] at hlt1; simp at hlt1)
        obtain ⟨b2, off2, rfl, hpb2, hc2⟩ := HC2.out.resolve_left (by intro e; rw [e] at hlt; simp at hlt)
        have hbl : b < wr.heap.size := Nat.lt_of_lt_of_le (HP.out b hpb) HB.out.size
        have hbl2 : b2 < wr.heap.size := Nat.lt_of_lt_of_le (HQ.out b2 hpb2) HB.out.size
        have c0 : wr.cell? ⟨b, off + k, none⟩ = some (.string l[k]) := (HB.out.cell (p := ⟨b, off + k, none⟩) (HP.out b hpb)).trans (by have := hc k hlt1 0 _ rfl; simpa using this)
        have d0 : wr.cell? ⟨b2, off2 + k, none⟩ = some (.string m[k]) := (HB.out.cell (p := ⟨b2, off2 + k, none⟩) (HQ.out b2 hpb2)).trans (by have := hc2 k hlt 0 _ rfl; simpa using this)
        have HNext : Hid (l[k] = m[k] → ∀ j (_ : j < k + 1) (h1 : j < l.length) (h2 : j < m.length), l[j] = m[j]) := by
          intro he j hj h1 h2
          by_cases e : j = k
          · subst e; exact he
          · exact HE.out j (by omega) h1 h2
        have HHit : Hid (l[k] ≠ m[k] → l ≠ m) := fun hh e => hh (by subst e; rfl)
        clear hc hc2
        generalize l[k] = x at c0 HNext HHit
        generalize m[k] = y at d0 HNext HHit
        have hk2 : (k : Int) < (m.length : Int) := by omega
        obtain ⟨bq, hbq⟩ : ∃ bq, decide (x = y) = bq := ⟨_, rfl⟩
        obtain ⟨s1, s2⟩ := strEq_of hbq
        have HX := hid hbq
        clear hbq
        cases bq
        · go_wp2_with fail
          go_quiet (fail)
          go_wp2_with fail
          go_ret
          exact ⟨by rw [← HR.out, decide_eq_false (HHit.out (of_decide_eq_false HX.out))]; rfl, HB.out.trans ⟨rfl, rfl, rfl, Nat.le_refl _, fun _ _ => rfl⟩⟩
        · go_wp2_with fail
          go_quiet (fail)
          go_wp2_with fail
          go_roundw
          case rel => exact ⟨k + 1, by omega, by go_num, HB.out.trans ⟨rfl, rfl, rfl, Nat.le_refl _, fun _ _ => rfl⟩, HNext.out (of_decide_eq_true HX.out)⟩
          case measure => simp [intOf]; omega
      · obtain rfl : k = m.length := by omega
        go_wp2_with fail
        go_ret
        have : l = m := List.ext_getElem HN.out (fun j h1 h2 => HE.out j h2 h1 h2)
        exact ⟨by rw [← HR.out, decide_eq_true this]; rfl, HB.out⟩
  · have HL : Hid (l ≠ m) := fun e => hlen (by rw [e])
    have hle2 : ((l.length : Int) == (m.length : Int)) = false := by rw [beq_eq_false_iff_ne]; omega
    clear hlen
    go_enter Try.func21, Try.ntmps21
    go_wp2_with fail
    go_ret
    exact ⟨by rw [← HR.out, decide_eq_false HL.out]; rfl, Below.refl _ _⟩

end C04
end Go.Proofs.Ytmmmaldpalhjeaa
namespace Go.Peri
open Go.RowKit
theorem rows_of_blk {α : Type} {enc : α → List Value} {k : Nat} (hk : ∀ x, (enc x).length = k) {w : World} {g t n : Nat} {l : List α} (h : Blk w g (l.flatMap enc).toArray t) (hn : l.length = n) (hm : n ≤ maxLen) : RowsOf (· = g) enc k w (.slice (some ⟨g, 0, none⟩) n n) l := by
  subst hn
  refine ⟨_, _, rfl, Nat.le_refl _, hm, by simp, .inr ⟨g, 0, rfl, rfl, fun i hi j u hu => ?_⟩⟩
  have hj : j < k := by have := (List.getElem?_eq_some_iff.1 hu).1; rw [hk] at this; exact this
  rw [h.cell, Nat.zero_add, List.getElem?_toArray, flat_get hk l i hi j hj]
  exact hu
/-- A reading, whatever is known of its block. -/
def Reads {α : Type} (enc : α → List Value) (k : Nat) (w : World) (v : Value) (l : List α) : Prop := ∃ p : Nat → Prop, (∀ b, p b → b < w.heap.size) ∧ RowsOf p enc k w v l
theorem Reads.later {α : Type} {enc : α → List Value} {k : Nat} {w w' : World} {v : Value} {l : List α} (h : Reads enc k w v l) (hb : Below w.heap.size w w') : Reads enc k w' v l := by
  obtain ⟨p, h1, h2⟩ := h
  exact ⟨p, fun b hb' => Nat.lt_of_lt_of_le (h1 b hb') hb.size, h2.below hb h1⟩
theorem Reads.blk {α : Type} {enc : α → List Value} {k : Nat} (hk : ∀ x, (enc x).length = k) {w : World} {g t n : Nat} {l : List α} (h : Blk w g (l.flatMap enc).toArray t) (hn : l.length = n) (hm : n ≤ maxLen) : Reads enc k w (.slice (some ⟨g, 0, none⟩) n n) l :=
  ⟨(· = g), fun b hb => by rw [hb]; exact h.lt, rows_of_blk hk h hn hm⟩
theorem Reads.owns {α : Type} {enc : α → List Value} {k : Nat} (hk : ∀ x, (enc x).length = k) {w : World} {base : Nat} {e : TypeId} {v : Value} {l : List α} (h : w.ownsRow base e k v l.length (l.flatMap enc)) : Reads enc k w v l := ⟨_, fun _ hb => hb.2, RowsOf.of_owns hk h⟩
theorem Reads.form {α : Type} {enc : α → List Value} {k : Nat} {w : World} {v : Value} {l : List α} (h : Reads enc k w v l) : ∃ a cap, v = .slice a l.length cap := by
  obtain ⟨_, _, h⟩ := h
  exact h.form
/-- A new slice, as the laws want it. -/
def NewR {α : Type} (enc : α → List Value) (k n : Nat) (W : World) (l : List α) (e : Ending) (w' : World) : Prop :=
  ∃ a cap, e = .returned (.slice a n cap) ∧ Below W.heap.size W w' ∧ Hid (Reads enc k w' (.slice a n cap) l)
theorem NewRows.newR {α : Type} {enc : α → List Value} {k n : Nat} (hk : ∀ x, (enc x).length = k) {T : TypeId} {W : World} {l m : List α} {e : Ending} {w' : World} (h : NewRows enc k T W l e w') (hm : l = m) (hn : m.length = n) : NewR enc k n W m e w' := by
  subst hm hn
  obtain ⟨a, cap, h1, h2, h3⟩ := h
  exact ⟨a, cap, h1, h2, Reads.owns hk h3.out⟩
end Go.Peri
namespace Go.Proofs.Ytmmmaldpalhjeaa
open Go.RowKit Go.Peri
namespace C04
theorem texts_list (u v : Value) (l : List ByteArray) (W : World) (h : Reads sEnc 1 W u l) (h2 : Reads sEnc 1 W v l) (hl : l.length ≤ 1000000) :
    Calls Try.prog 21 #[u, v] W fun e w' => e = .returned (.bool true) ∧ Below W.heap.size W w' := by
  obtain ⟨p, hp, hr⟩ := h
  obtain ⟨q, hq, hr2⟩ := h2
  exact texts_any u v l l true W hr hp hr2 hq (by omega) (by omega) (decide_eq_true rfl)
end C04
end Go.Proofs.Ytmmmaldpalhjeaa
namespace Go.Proofs.Ytmmmaldpalhjeaa
open Go.RowKit Go.Peri
namespace C04
end C04
end Go.Proofs.Ytmmmaldpalhjeaa
namespace Go.Proofs.Ytmmmaldpalhjeaa
open Go.RowKit Go.Peri
namespace C11
def inB (lo hi : Nat) (b : UInt8) : Bool := decide (lo ≤ b.toNat) && decide (b.toNat ≤ hi)
theorem inB_in {lo hi : Nat} {b : UInt8} (h : lo ≤ b.toNat ∧ b.toNat ≤ hi) : inB lo hi b = true := by unfold inB; simp [h.1, h.2]
theorem inB_out {lo hi : Nat} {b : UInt8} (h : ¬ (lo ≤ b.toNat ∧ b.toNat ≤ hi)) : inB lo hi b = false := by
  unfold inB
  by_cases h1 : lo ≤ b.toNat
  · have : ¬ b.toNat ≤ hi := fun h2 => h ⟨h1, h2⟩
    simp [this]
  · simp [h1]
def allIn (s : ByteArray) (lo hi : Nat) : Bool := s.data.toList.all (inB lo hi)
set_option maxRecDepth 100000 in
theorem each_any (s : ByteArray) (lo hi : Nat) (r : Bool) (W : World) (hs : s.size ≤ 1000000000000000) (hr : allIn s lo hi = r) :
    Calls Try.prog 240 #[.string s, .int .u8 lo, .int .u8 hi] W fun e w' => e = .returned (.bool r) ∧ W = w' := by
  have HR := hid hr
  clear hr
  go_enter Try.func240, Try.ntmps240
  go_wp2_with fail
  go_loopw [10] (fun i wr => W = wr ∧ ∃ k : Nat, k ≤ s.size ∧ i = .int .i64 k ∧ (s.data.toList.take k).all (inB lo hi) = true) (fun i _ => s.size - (intOf i).toNat)
  case atStart => exact ⟨rfl, 0, Nat.zero_le _, rfl, by simp⟩
  case round =>
    obtain ⟨rfl, k, hk, rfl, hall⟩ := hrel
    have HA := hid hall
    clear hall
    by_cases hlt : k < s.size
    · have hlt' : k < s.data.toList.length := by simpa using hlt
      have e1 : s.data.toList[k] = s[k] := rfl
      have HNext : Hid (inB lo hi s[k] = true → (s.data.toList.take (k + 1)).all (inB lo hi) = true) := hid (fun h => Hd.all_snoc hlt' HA.out (by rw [e1]; exact h))
      have HHit : Hid (inB lo hi s[k] = false → allIn s lo hi = false) := hid (fun h => Hd.all_hit hlt' (by rw [e1]; exact h))
      clear e1
      by_cases g1 : ((s[k]'hlt).toNat : Int) < (lo : Int)
      · have HV := hid (HHit.out (inB_out (by omega)))
        go_wp2_with fail
        go_ret
        exact ⟨by rw [← HR.out, HV.out]; rfl, rfl⟩
      by_cases g2 : (hi : Int) < ((s[k]'hlt).toNat : Int)
      · have HV := hid (HHit.out (inB_out (by omega)))
        go_wp2_with fail
        go_ret
        exact ⟨by rw [← HR.out, HV.out]; rfl, rfl⟩
      · have HV := hid (HNext.out (inB_in (by omega)))
        go_wp2_with fail
        go_roundw
        case rel => exact ⟨by first | rfl | trivial, k + 1, by omega, by go_num, HV.out⟩
        case measure => simp [intOf]; omega
    · obtain rfl : k = s.size := by omega
      have hd : Hid (allIn s lo hi = true) := hid (by have := HA.out; rwa [List.take_of_length_le (by simp)] at this)
      go_wp2_with fail
      go_ret
      exact ⟨by rw [← HR.out, hd.out]; rfl, rfl⟩
def eachR (s : ByteArray) (least most : Nat) (lo hi : Nat) : Bool := decide (least ≤ s.size) && (decide (s.size ≤ most) && allIn s lo hi)
set_option maxRecDepth 100000 in
theorem reach_any (s : ByteArray) (least most lo hi : Nat) (r : Bool) (W : World) (hs : s.size ≤ 1000000000000000) (hr : eachR s least most lo hi = r) :
    Calls Try.prog 188 #[.string s, .int .i64 least, .int .i64 most, .int .u8 lo, .int .u8 hi] W fun e w' => e = .returned (.bool r) ∧ W = w' := by
  unfold eachR at hr
  by_cases h1 : (s.size : Int) < (least : Int)
  · rw [decide_eq_false (by omega), Bool.false_and] at hr
    subst hr
    go_enter Try.func188, Try.ntmps188
    go_wp2_with fail
    go_ret
    exact ⟨rfl, rfl⟩
  rw [decide_eq_true (show least ≤ s.size by omega), Bool.true_and] at hr
  by_cases h2 : (most : Int) < (s.size : Int)
  · rw [decide_eq_false (by omega), Bool.false_and] at hr
    subst hr
    go_enter Try.func188, Try.ntmps188
    go_wp2_with fail
    go_ret
    exact ⟨rfl, rfl⟩
  rw [decide_eq_true (show s.size ≤ most by omega), Bool.true_and] at hr
  have HR := hid hr
  clear hr
  go_enter Try.func188, Try.ntmps188
  go_wp2_with fail
  go_loopw [11] (fun i wr => W = wr ∧ ∃ k : Nat, k ≤ s.size ∧ i = .int .i64 k ∧ (s.data.toList.take k).all (inB lo hi) = true) (fun i _ => s.size - (intOf i).toNat)
  case atStart => exact ⟨rfl, 0, Nat.zero_le _, rfl, by simp⟩
  case round =>
    obtain ⟨rfl, k, hk, rfl, hall⟩ := hrel
    have HA := hid hall
    clear hall
    by_cases hlt : k < s.size
    · have hlt' : k < s.data.toList.length := by simpa using hlt
      have e1 : s.data.toList[k] = s[k] := rfl
      have HNext : Hid (inB lo hi s[k] = true → (s.data.toList.take (k + 1)).all (inB lo hi) = true) := hid (fun h => Hd.all_snoc hlt' HA.out (by rw [e1]; exact h))
      have HHit : Hid (inB lo hi s[k] = false → allIn s lo hi = false) := hid (fun h => Hd.all_hit hlt' (by rw [e1]; exact h))
      clear e1
      by_cases g1 : ((s[k]'hlt).toNat : Int) < (lo : Int)
      · have HV := hid (HHit.out (inB_out (by omega)))
        go_wp2_with fail
        go_ret
        exact ⟨by rw [← HR.out, HV.out]; rfl, rfl⟩
      by_cases g2 : (hi : Int) < ((s[k]'hlt).toNat : Int)
      · have HV := hid (HHit.out (inB_out (by omega)))
        go_wp2_with fail
        go_ret
        exact ⟨by rw [← HR.out, HV.out]; rfl, rfl⟩
      · have HV := hid (HNext.out (inB_in (by omega)))
        go_wp2_with fail
        go_roundw
        case rel => exact ⟨by first | rfl | trivial, k + 1, by omega, by go_num, HV.out⟩
        case measure => simp [intOf]; omega
    · obtain rfl : k = s.size := by omega
      have hd : Hid (allIn s lo hi = true) := hid (by have := HA.out; rwa [List.take_of_length_le (by simp)] at this)
      go_wp2_with fail
      go_ret
      exact ⟨by rw [← HR.out, hd.out]; rfl, rfl⟩
def methodOk (s : ByteArray) : Bool := eachR s 1 8 65 90
def pathOk (s : ByteArray) : Bool := eachR s 1 64 33 126 && decide ((s.data.toList.getD 0 0).toNat = 47)
set_option maxRecDepth 100000 in
theorem rmethod_any (s : ByteArray) (r : Bool) (W : World) (hs : s.size ≤ 1000000000000000) (hr : methodOk s = r) :
    Calls Try.prog 156 #[.string s] W fun e w' => e = .returned (.bool r) ∧ W = w' := by
  have HE := hid (fun w => reach_any s 1 8 65 90 r w hs hr)
  clear hr
  go_enter Try.func156, Try.ntmps156
  go_wp2_with fail
  refine (HE.out _).mono ?_
  rintro e w' ⟨rfl, rfl⟩
  go_wp2_with fail
  go_ret
  exact ⟨rfl, rfl⟩
set_option maxRecDepth 100000 in
theorem rpath_any (s : ByteArray) (r : Bool) (W : World) (hs : s.size ≤ 1000000000000000) (hr : pathOk s = r) :
    Calls Try.prog 142 #[.string s] W fun e w' => e = .returned (.bool r) ∧ W = w' := by
  unfold pathOk at hr
  obtain ⟨q, hq⟩ : ∃ q, eachR s 1 64 33 126 = q := ⟨_, rfl⟩
  have HE := hid (fun w => reach_any s 1 64 33 126 q w hs hq)
  rw [hq] at hr
  cases q
  · rw [Bool.false_and] at hr
    subst hr
    clear hq
    go_enter Try.func142, Try.ntmps142
    go_wp2_with fail
    refine (HE.out _).mono ?_
    rintro e w' ⟨rfl, rfl⟩
    go_wp2_with fail
    go_ret
    exact ⟨rfl, rfl⟩
  · have h0 : 0 < s.size := by
      unfold eachR at hq
      rw [Bool.and_eq_true] at hq
      have := of_decide_eq_true hq.1
      omega
    have hl : 0 < s.data.toList.length := by simpa using h0
    rw [Bool.true_and, List.getD_eq_getElem?_getD, List.getElem?_eq_getElem hl] at hr
    replace hr : decide ((s[0]'h0).toNat = 47) = r := hr
    have hb : (((s[0]'h0).toNat : Int) == 47) = r := by
      rw [← hr]
      by_cases g : (s[0]'h0).toNat = 47
      · rw [g]; rfl
      · rw [decide_eq_false g]; exact beq_eq_false_iff_ne.2 (by omega)
    clear hq hr
    go_enter Try.func142, Try.ntmps142
    go_wp2_with fail
    refine (HE.out _).mono ?_
    rintro e w' ⟨rfl, rfl⟩
    go_wp2_with fail
    go_ret
    exact ⟨rfl, rfl⟩
end C11
end Go.Proofs.Ytmmmaldpalhjeaa
namespace Go.Proofs.Ytmmmaldpalhjeaa
open Go.RowKit Go.Peri
namespace C11
def prefR (s t : ByteArray) : Bool := decide (t.size ≤ s.size) && decide (s.extract 0 t.size = t)
set_option maxRecDepth 100000 in
theorem hp_any (s t : ByteArray) (r : Bool) (W : World) (hr : prefR s t = r) :
    Calls Try.prog 246 #[.string s, .string t] W fun e w' => e = .returned (.bool r) ∧ W = w' := by
  unfold prefR at hr
  by_cases h1 : (t.size : Int) ≤ (s.size : Int)
  · rw [decide_eq_true (show t.size ≤ s.size by omega), Bool.true_and] at hr
    have k1 := (strEq_of hr).eq
    have k2 := (strEq_of hr).ne
    clear hr
    go_enter Try.func246, Try.ntmps246
    go_wp2_with fail
    go_ret
    exact ⟨rfl, rfl⟩
  · rw [decide_eq_false (by omega), Bool.false_and] at hr
    subst hr
    go_enter Try.func246, Try.ntmps246
    go_wp2_with fail
    go_ret
    exact ⟨rfl, rfl⟩
set_option maxRecDepth 100000 in
theorem hasPrefix_any (s t : ByteArray) (r : Bool) (W : World) (hr : prefR s t = r) :
    Calls Try.prog 228 #[.string s, .string t] W fun e w' => e = .returned (.bool r) ∧ W = w' := by
  have HE := hid (fun w => hp_any s t r w hr)
  clear hr
  go_enter Try.func228, Try.ntmps228
  go_wp2_with fail
  refine (HE.out _).mono ?_
  rintro e w' ⟨rfl, rfl⟩
  go_wp2_with fail
  go_ret
  exact ⟨rfl, rfl⟩
set_option maxRecDepth 100000 in
theorem method_any (s : ByteArray) (r : Bool) (W : World) (hs : s.size ≤ 1000000000000000) (hr : methodOk s = r) :
    Calls Try.prog 216 #[.string s] W fun e w' => e = .returned (.bool r) ∧ W = w' := by
  unfold methodOk eachR at hr
  by_cases h0 : s.size = 0
  · have hem : s = ByteArray.empty := ByteArray.ext (Array.eq_empty_of_size_eq_zero h0)
    rw [decide_eq_false (by omega), Bool.false_and] at hr
    subst hr
    subst hem
    go_enter Try.func216, Try.ntmps216
    go_wp2_with fail
    go_ret
    exact ⟨rfl, rfl⟩
  have t1 : s.toList.isEmpty = false := by
    rw [Bool.eq_false_iff]; intro h
    apply h0
    rw [List.isEmpty_iff, ByteArray.toList_eq] at h
    have := congrArg List.length h
    simpa using this
  have t2 : (!s.toList.isEmpty) = true := by rw [t1]; rfl
  have t3 : ¬ s.toList = [] := by rw [← List.isEmpty_iff, t1]; simp
  rw [decide_eq_true (show 1 ≤ s.size by omega), Bool.true_and] at hr
  by_cases h8 : (s.size : Int) ≤ 8
  · rw [decide_eq_true (show s.size ≤ 8 by omega), Bool.true_and] at hr
    have HE := hid (fun w => each_any s 65 90 r w hs hr)
    clear hr
    go_enter Try.func216, Try.ntmps216
    go_wp2_with fail
    refine (HE.out _).mono ?_
    rintro e w' ⟨rfl, rfl⟩
    go_wp2_with fail
    go_ret
    exact ⟨rfl, rfl⟩
  · rw [decide_eq_false (by omega), Bool.false_and] at hr
    subst hr
    go_enter Try.func216, Try.ntmps216
    go_wp2_with fail
    go_ret
    exact ⟨rfl, rfl⟩
theorem pathOk_eq (s : ByteArray) : pathOk s = (prefR s ⟨#[47]⟩ && (decide (s.size ≤ 64) && allIn s 33 126)) := by
  unfold pathOk eachR prefR
  by_cases h : 1 ≤ s.size
  · have hl : 0 < s.data.toList.length := by rw [Array.length_toList]; exact h
    have e : decide (s.extract 0 (ByteArray.size ⟨#[47]⟩) = ⟨#[47]⟩) = decide ((s.data.toList.getD 0 0).toNat = 47) := by
      rw [decide_eq_decide, List.getD_eq_getElem?_getD, List.getElem?_eq_getElem hl]
      constructor
      · intro g
        have g2 := congrArg (fun x : ByteArray => x.data.toList) g
        simp only [ByteArray.data_extract, Array.toList_extract, List.extract_eq_take_drop, List.drop_zero] at g2
        have g3 : s.data.toList.take 1 = [47] := g2
        have : s.data.toList[0] = 47 := by
          have := congrArg (fun l : List UInt8 => l[0]?) g3
          simp only [List.getElem?_take] at this
          simpa [List.getElem?_eq_getElem hl] using this
        show (s.data.toList[0]).toNat = 47
        rw [this]; rfl
      · intro g
        have g1 : s.data.toList[0] = 47 := UInt8.toNat_inj.1 g
        apply ByteArray.ext
        apply Array.toList_inj.1
        simp only [ByteArray.data_extract, Array.toList_extract, List.extract_eq_take_drop, List.drop_zero]
        show s.data.toList.take 1 = [47]
        match hq : s.data.toList, hl, g1 with
        | a :: l, _, g1 => simp only [List.take_succ_cons, List.take_zero]; rw [show a = 47 from g1]
    have e2 : decide (ByteArray.size ⟨#[47]⟩ ≤ s.size) = true := decide_eq_true h
    rw [e, e2, decide_eq_true h, Bool.true_and, Bool.true_and, Bool.and_comm]
  · have e2 : decide (ByteArray.size ⟨#[47]⟩ ≤ s.size) = false := decide_eq_false h
    rw [e2, decide_eq_false h]; simp
set_option maxRecDepth 100000 in
theorem path_any (s : ByteArray) (r : Bool) (W : World) (hs : s.size ≤ 1000000000000000) (hr : pathOk s = r) :
    Calls Try.prog 217 #[.string s] W fun e w' => e = .returned (.bool r) ∧ W = w' := by
  rw [pathOk_eq] at hr
  obtain ⟨q, hq⟩ : ∃ q, prefR s ⟨#[47]⟩ = q := ⟨_, rfl⟩
  have HP := hid (fun w => hasPrefix_any s ⟨#[47]⟩ q w hq)
  rw [hq] at hr
  clear hq
  cases q
  · rw [Bool.false_and] at hr
    subst hr
    go_enter Try.func217, Try.ntmps217
    go_wp2_with fail
    refine (HP.out _).mono ?_
    rintro e w' ⟨rfl, rfl⟩
    go_wp2_with fail
    go_ret
    exact ⟨rfl, rfl⟩
  rw [Bool.true_and] at hr
  by_cases h8 : (s.size : Int) ≤ 64
  · rw [decide_eq_true (show s.size ≤ 64 by omega), Bool.true_and] at hr
    have HE := hid (fun w => each_any s 33 126 r w hs hr)
    clear hr
    go_enter Try.func217, Try.ntmps217
    go_wp2_with fail
    refine (HP.out _).mono ?_
    rintro e w' ⟨rfl, rfl⟩
    go_wp2_with fail
    refine (HE.out _).mono ?_
    rintro e w' ⟨rfl, rfl⟩
    go_wp2_with fail
    go_ret
    exact ⟨rfl, rfl⟩
  · rw [decide_eq_false (by omega), Bool.false_and] at hr
    subst hr
    go_enter Try.func217, Try.ntmps217
    go_wp2_with fail
    refine (HP.out _).mono ?_
    rintro e w' ⟨rfl, rfl⟩
    go_wp2_with fail
    go_ret
    exact ⟨rfl, rfl⟩
end C11
end Go.Proofs.Ytmmmaldpalhjeaa
namespace Go.Proofs.Ytmmmaldpalhjeaa
open Go.RowKit Go.Peri
namespace C11
set_option maxRecDepth 100000 in
theorem tail_none (W : World) : Calls Try.prog 218 #[.slice none 0 0, .string ⟨#[]⟩] W fun e w' => e = .returned (.int .i64 0) ∧ Below W.heap.size W w' := by
  have HC : Hid (∀ w, Calls Try.prog 241 #[.slice none 0 0] w fun e w' => e = .returned (.int .i64 0) ∧ Below w.heap.size w w') := hid (fun w => C04.check_any (p := fun _ => False) _ [] w (RowsOf.nil _ _ _ _) (fun _ h => h.elim) (fun _ h => by simp at h) (by decide))
  go_enter Try.func218, Try.ntmps218
  go_wp2_with fail
  refine (HC.out _).mono ?_
  rintro e w1 ⟨rfl, hb1⟩
  have HB1 := hid hb1
  clear hb1
  go_wp2_with fail
  go_ret
  exact ⟨rfl, HB1.out⟩
/-- Why a request of these may not be. -/
def told (m h p : ByteArray) : Int := if methodOk m = true then (if Hd.nameOk h = true then (if pathOk p = true then 0 else 12) else 7) else 3
abbrev req (m h p : ByteArray) : Value := .agg #[.string m, .string h, .string p, .slice none 0 0, .string ⟨#[]⟩]
set_option maxRecDepth 100000 in
set_option maxHeartbeats 1000000 in
theorem mcheck_any (m h p : ByteArray) (r : Int) (W : World) (hm : m.size ≤ 1000000000000000) (hh : h.size ≤ 1000000000000000) (hp : p.size ≤ 1000000000000000) (hr : told m h p = r) :
    Calls Try.prog 186 #[.agg #[.string m, .string h, .string p, .slice none 0 0, .string ⟨#[]⟩]] W fun e w' => e = .returned (.int .i64 r) ∧ Below W.heap.size W w' := by
  obtain ⟨b1, q1⟩ : ∃ b, methodOk m = b := ⟨_, rfl⟩
  obtain ⟨b2, q2⟩ : ∃ b, Hd.nameOk h = b := ⟨_, rfl⟩
  obtain ⟨b3, q3⟩ : ∃ b, pathOk p = b := ⟨_, rfl⟩
  have HM := hid (fun w => method_any m b1 w hm q1)
  have HN := hid (fun w => C04.name_any h w hh)
  have HP := hid (fun w => path_any p b3 w hp q3)
  have HT := hid tail_none
  unfold told at hr
  rw [q2] at HN
  rw [q1, q2, q3] at hr
  have HR := hid hr
  have HB0 : Hid (Below W.heap.size W (W.alloc (.cells #[.string m, .string h, .string p, .slice none 0 0, .string ⟨#[]⟩] 67))) := by show Below _ _ _; go_grown
  clear q1 q2 q3 hr
  cases b1
  · go_enter Try.func186, Try.ntmps186
    go_wp2_with fail
    refine (HM.out _).mono ?_
    rintro e w' ⟨rfl, rfl⟩
    go_wp2_with fail
    go_ret
    exact ⟨by rw [← HR.out]; rfl, HB0.out⟩
  cases b2
  · go_enter Try.func186, Try.ntmps186
    go_wp2_with fail
    refine (HM.out _).mono ?_
    rintro e w' ⟨rfl, rfl⟩
    go_wp2_with fail
    refine (HN.out _).mono ?_
    rintro e w' ⟨rfl, rfl⟩
    go_wp2_with fail
    go_ret
    exact ⟨by rw [← HR.out]; rfl, HB0.out⟩
  cases b3
  · go_enter Try.func186, Try.ntmps186
    go_wp2_with fail
    refine (HM.out _).mono ?_
    rintro e w' ⟨rfl, rfl⟩
    go_wp2_with fail
    refine (HN.out _).mono ?_
    rintro e w' ⟨rfl, rfl⟩
    go_wp2_with fail
    refine (HP.out _).mono ?_
    rintro e w' ⟨rfl, rfl⟩
    go_wp2_with fail
    go_ret
    exact ⟨by rw [← HR.out]; rfl, HB0.out⟩
  go_enter Try.func186, Try.ntmps186
  go_wp2_with fail
  refine (HM.out _).mono ?_
  rintro e w' ⟨rfl, rfl⟩
  go_wp2_with fail
  refine (HN.out _).mono ?_
  rintro e w' ⟨rfl, rfl⟩
  go_wp2_with fail
  refine (HP.out _).mono ?_
  rintro e w' ⟨rfl, rfl⟩
  go_wp2_with fail
  refine (HT.out _).mono ?_
  rintro e w1 ⟨rfl, hb1⟩
  have HB1 := hid (HB0.out.trans (hb1.mono (by simp)))
  clear hb1
  go_wp2_with fail
  go_ret
  exact ⟨by rw [← HR.out]; rfl, HB1.out⟩
def kH : ByteArray := ⟨#[97]⟩
def kP : ByteArray := ⟨#[47]⟩
def kM : ByteArray := ⟨#[65]⟩
set_option maxRecDepth 100000 in
theorem asked_any (m h p : ByteArray) (r : Int) (W : World) (hm : m.size ≤ 1000000000000000) (hh : h.size ≤ 1000000000000000) (hp : p.size ≤ 1000000000000000) (hr : told m h p = r) :
    Calls Try.prog 221 #[.agg #[.string m, .string h, .string p, .slice none 0 0, .string ⟨#[]⟩]] W fun e w' => e = .returned (.int .i64 r) ∧ Below W.heap.size W w' := by
  have HC := hid (fun w => mcheck_any m h p r w hm hh hp hr)
  have HB0 : Hid (Below W.heap.size W (W.alloc (.cells #[.string m, .string h, .string p, .slice none 0 0, .string ⟨#[]⟩] 67))) := by show Below _ _ _; go_grown
  clear hr
  go_enter Try.func221, Try.ntmps221
  go_wp2_with fail
  refine (HC.out _).mono ?_
  rintro e w1 ⟨rfl, hb1⟩
  have HB1 := hid (HB0.out.trans (hb1.mono (by simp)))
  clear hb1
  go_wp2_with fail
  go_ret
  exact ⟨rfl, HB1.out⟩
set_option maxRecDepth 100000 in
theorem kmethod_any (s : ByteArray) (W : World) (hs : s.size ≤ 1000000000000000) : Calls Try.prog 220 #[.string s] W fun e w' => e = .returned (.int .i64 (if methodOk s = true then 0 else 3)) ∧ Below W.heap.size W w' := by
  have hn : Hd.nameOk kH = true := by decide
  have hp : pathOk kP = true := by decide
  have ht : told s kH kP = if methodOk s = true then 0 else 3 := by unfold told; rw [if_pos hn, if_pos hp]
  have HA := hid (fun w => asked_any s kH kP _ w hs (by decide) (by decide) ht)
  unfold kH kP at HA
  clear hn hp ht
  generalize (if methodOk s = true then (0 : Int) else 3) = r at HA
  go_enter Try.func220, Try.ntmps220
  go_wp2_with fail
  refine (HA.out _).mono ?_
  rintro e w1 ⟨rfl, hb1⟩
  have HB1 := hid hb1
  clear hb1
  go_wp2_with fail
  go_ret
  exact ⟨rfl, HB1.out⟩
set_option maxRecDepth 100000 in
theorem kpath_any (s : ByteArray) (W : World) (hs : s.size ≤ 1000000000000000) : Calls Try.prog 222 #[.string s] W fun e w' => e = .returned (.int .i64 (if pathOk s = true then 0 else 12)) ∧ Below W.heap.size W w' := by
  have hn : Hd.nameOk kH = true := by decide
  have hm : methodOk kM = true := by decide
  have ht : told kM kH s = if pathOk s = true then 0 else 12 := by unfold told; rw [if_pos hm, if_pos hn]
  have HA := hid (fun w => asked_any kM kH s _ w (by decide) (by decide) hs ht)
  unfold kH kM at HA
  clear hn hm ht
  generalize (if pathOk s = true then (0 : Int) else 12) = r at HA
  go_enter Try.func222, Try.ntmps222
  go_wp2_with fail
  refine (HA.out _).mono ?_
  rintro e w1 ⟨rfl, hb1⟩
  have HB1 := hid hb1
  clear hb1
  go_wp2_with fail
  go_ret
  exact ⟨rfl, HB1.out⟩
end C11
end Go.Proofs.Ytmmmaldpalhjeaa
namespace Go.Proofs.Ytmmmaldpalhjeaa
open Go.RowKit Go.Peri
namespace C11
def fv (n : Nat) : Value := .func (.func n) #[] #[]
set_option maxRecDepth 100000 in
theorem when_any (n : Nat) (e : Int) (W : World) : Calls Try.prog 224 #[.func (.func n) #[] #[], .int .i64 e] W fun r w' =>
    r = .returned (.func (.func 245) #[] #[.pointer (some ⟨W.heap.size, 0, none⟩), .pointer (some ⟨W.heap.size + 1, 0, none⟩)]) ∧ Below W.heap.size W w' ∧ Blk w' W.heap.size #[.func (.func n) #[] #[]] 124 ∧ Blk w' (W.heap.size + 1) #[.int .i64 e] 25 := by
  go_enter Try.func224, Try.ntmps224
  go_wp2_with fail
  go_ret
  refine ⟨by simp, by go_grown, (Blk.new W _ _).alloc _, Blk.new' _ _ _ (by simp)⟩
set_option maxRecDepth 100000 in
theorem whenName_any (s : ByteArray) (e : Int) (b : Bool) (p q : Nat) (W : World) (hs : s.size ≤ 1000000000000000) (hp : Blk W p #[.func (.func 140) #[] #[]] 124) (hq : Blk W q #[.int .i64 e] 25) (hr : Hd.nameOk s = b) :
    Calls Try.prog 245 #[.string s, .pointer (some ⟨p, 0, none⟩), .pointer (some ⟨q, 0, none⟩)] W fun r w' => r = .returned (.int .i64 (if b = true then 0 else e)) ∧ Below W.heap.size W w' := by
  have c1 : W.cell? ⟨p, 0, none⟩ = some (.func (.func 140) #[] #[]) := hp.cell 0
  have c2 : W.cell? ⟨q, 0, none⟩ = some (.int .i64 e) := hq.cell 0
  have l1 := hp.lt
  have l2 := hq.lt
  have HN := hid (fun w => C04.name_any s w hs)
  rw [hr] at HN
  clear hp hq hr
  cases b
  · go_enter Try.func245, Try.ntmps245
    go_wp2_with fail
    refine (HN.out _).mono ?_
    rintro e w' ⟨rfl, rfl⟩
    go_wp2_with fail
    go_ret
    exact ⟨rfl, by go_grown⟩
  · go_enter Try.func245, Try.ntmps245
    go_wp2_with fail
    refine (HN.out _).mono ?_
    rintro e w' ⟨rfl, rfl⟩
    go_wp2_with fail
    go_ret
    exact ⟨rfl, by go_grown⟩
set_option maxRecDepth 100000 in
theorem whenValue_any (s : ByteArray) (e : Int) (b : Bool) (p q : Nat) (W : World) (hs : s.size ≤ 1000000000000000) (hp : Blk W p #[.func (.func 229) #[] #[]] 124) (hq : Blk W q #[.int .i64 e] 25) (hr : Hd.valueOk s = b) :
    Calls Try.prog 245 #[.string s, .pointer (some ⟨p, 0, none⟩), .pointer (some ⟨q, 0, none⟩)] W fun r w' => r = .returned (.int .i64 (if b = true then 0 else e)) ∧ Below W.heap.size W w' := by
  have c1 : W.cell? ⟨p, 0, none⟩ = some (.func (.func 229) #[] #[]) := hp.cell 0
  have c2 : W.cell? ⟨q, 0, none⟩ = some (.int .i64 e) := hq.cell 0
  have l1 := hp.lt
  have l2 := hq.lt
  have HN := hid (fun w => C04.value_any s w hs)
  rw [hr] at HN
  clear hp hq hr
  cases b
  · go_enter Try.func245, Try.ntmps245
    go_wp2_with fail
    refine (HN.out _).mono ?_
    rintro e w' ⟨rfl, rfl⟩
    go_wp2_with fail
    go_ret
    exact ⟨rfl, by go_grown⟩
  · go_enter Try.func245, Try.ntmps245
    go_wp2_with fail
    refine (HN.out _).mono ?_
    rintro e w' ⟨rfl, rfl⟩
    go_wp2_with fail
    go_ret
    exact ⟨rfl, by go_grown⟩
def wh (a b : Nat) : Value := .func (.func 245) #[] #[.pointer (some ⟨a, 0, none⟩), .pointer (some ⟨b, 0, none⟩)]
def kcells (a b c d : Nat) : Array Value := #[.bool false, .bool true, .func (.func 220) #[] #[], .func (.func 223) #[] #[],
  .bool false, .bool true, .func (.func 245) #[] #[.pointer (some ⟨a, 0, none⟩), .pointer (some ⟨b, 0, none⟩)], .func (.func 225) #[] #[],
  .bool false, .bool true, .func (.func 222) #[] #[], .func (.func 226) #[] #[],
  .bool false, .bool true, .func (.func 222) #[] #[], .func (.func 227) #[] #[],
  .bool true, .bool true, .func (.func 245) #[] #[.pointer (some ⟨c, 0, none⟩), .pointer (some ⟨d, 0, none⟩)], .func (.func 230) #[] #[],
  .bool true, .bool false, .func (.func 232) #[] #[], .func (.func 233) #[] #[]]
structure KindsAt (w : World) (a b c d : Nat) : Prop where
  a : Blk w a #[.func (.func 140) #[] #[]] 124
  b : Blk w b #[.int .i64 7] 25
  c : Blk w c #[.func (.func 229) #[] #[]] 124
  d : Blk w d #[.int .i64 15] 25
def KindsQ (W : World) (e : Ending) (w' : World) : Prop :=
  ∃ a b c d g, e = .returned (.slice (some ⟨g, 0, none⟩) 6 6) ∧ Below W.heap.size W w' ∧ Hid (KindsAt w' a b c d) ∧ Hid (Blk w' g (kcells a b c d) 204)
set_option maxRecDepth 100000 in
set_option maxHeartbeats 1000000 in
theorem kinds_any (W : World) : Calls Try.prog 190 #[] W (KindsQ W) := by
  have HW := hid when_any
  go_enter Try.func190, Try.ntmps190
  go_wp2_with fail
  refine (HW.out _ _ _).mono ?_
  rintro e w1 ⟨rfl, hb1, hp1, hq1⟩
  have HB1 := hid hb1
  have HP1 := hid hp1
  have HQ1 := hid hq1
  clear hb1 hp1 hq1
  go_wp2_with fail
  refine (HW.out _ _ _).mono ?_
  rintro e w2 ⟨rfl, hb2, hp2, hq2⟩
  have HB2 := hid (HB1.out.trans (hb2.mono HB1.out.size))
  have HP2 := hid (HP1.out.later hb2)
  have HQ2 := hid (HQ1.out.later hb2)
  have HR2 := hid hp2
  have HS2 := hid hq2
  clear hb2 hp2 hq2
  go_wp2_with fail
  go_ret
  unfold KindsQ
  exact ⟨_, _, _, _, _, rfl, HB2.out.trans (by have := HB2.out.size; go_grown; all_goals omega), hid ⟨HP2.out.alloc _, HQ2.out.alloc _, HR2.out.alloc _, HS2.out.alloc _⟩, hid (Blk.new _ _ _)⟩
end C11
end Go.Proofs.Ytmmmaldpalhjeaa
