/- Walks of layer 26 (flight): each, of many batches; no condition. Walks of layer 26 (flight): each, of many batches; no condition. Walks of layer 26 (flight): Send, of many batches; no condition. Walks of layer 26 (flight): Step, of many batches; no condition. Walks of layer 26 (flight): Ack and Spans, of batches wherever they lie; no condition. Walks of layer 27 (export): limits are checked; a counter that is shared. Walks of layer 25 (buffer): the first ones deleted (slices.Delete); no condition. Walks of layer 25 (buffer): the first ones taken; no condition. -/
import Derived.Test.YtcohcanakicmpaaMg06
import Derived.Test.YtcohcanakicmpaaMg04
import Derived.Test.YtcohcanakicmpaaMg03
import Derived.Deep.RegionLaw
import Derived.Laws.IdiomCopy
namespace Go.Proofs.Ytcohcanakicmpaa
open Go.RowKit Go.Peri
open Gen (flat_set set_mid get_mid map_take_snoc owns_at owns_num owns_le owns_below owns_form)
namespace C26
open Sq (rest ixQ atQ total bk benc)
/-- What becomes of a batch: it rests (0), is given up (1), is sent again (2). -/
def fate (now tries : Int) (x : Sq) : Nat := if clk now < x.due then 0 else if tries ≤ x.tries then 1 else 2
def restS (now retry tries : Int) (l : List Sq) : List Sq := l.flatMap (fun x => if fate now tries x = 0 then [x] else if fate now tries x = 1 then [] else [{ x with tries := x.tries + 1, due := dueI now retry }])
def againS (now tries : Int) (l : List Sq) : List Sq := l.filter (fun x => fate now tries x == 2)
def givenS (now tries : Int) (l : List Sq) : List Sq := l.filter (fun x => fate now tries x == 1)
section
variable {W w w' w2 w3 w4 : World} {B M : Nat} {now retry tries : Int} {kA kG : List Sq} {ag gv ag' gv' : Value} {X X' : List Nat}
theorem Far.move (ho : Only X w w') (hm : Moves w.heap.size X X') {b : Nat} (h : Far w B ag gv X b) : Far w' B ag gv X' b :=
  ⟨Nat.lt_of_lt_of_le h.1 ho.size, h.2.1, h.2.2.1, h.2.2.2.1, fun hb => (hm b hb).elim h.2.2.2.2 (fun h2 => by have := h.1; omega)⟩
theorem at_move {k : Sq} (ho : Only X w w') (hm : Moves w.heap.size X X') (h : k.At (Far w B ag gv X) w) : k.At (Far w' B ag gv X') w' :=
  (h.only ho (fun b hb => ⟨hb.1, hb.2.2.2.2⟩)).imp (fun _ hb => hb.move ho hm)
theorem St.move (h : St w B M now retry tries kA kG ag gv X) (ho : Only X w w') (hm : Moves w.heap.size X X') (hx : ∀ b, b ∈ X → B + 4 < b) : St w' B M now retry tries kA kG ag gv X' :=
  ⟨h.caps.only ho (fun b hb => .inr (hx b hb)), owns_keep h.oa ho h.xa, owns_keep h.og ho h.xg, h.dis,
    fun b hb hm2 => (hm b hm2).elim (h.xa b hb) (fun h2 => by have := (owns_bd h.oa b hb).2; omega),
    fun b hb hm2 => (hm b hm2).elim (h.xg b hb) (fun h2 => by have := (owns_bd h.og b hb).2; omega),
    fun k hk => at_move ho hm (h.sa k hk), fun k hk => at_move ho hm (h.sg k hk), h.hM, Nat.le_trans h.hw ho.size⟩
theorem at_lit {k : Sq} (ho : Only ((B + 3) :: (B + 4) :: (blocks ag ++ blocks gv)) w w') (ha : Moves w.heap.size (blocks ag) (blocks ag')) (hg : Moves w.heap.size (blocks gv) (blocks gv')) (h : k.At (Far w B ag gv X) w) : k.At (Far w' B ag' gv' X) w' := by
  refine (h.only ho (fun b hb => ⟨hb.1, fun hm => ?_⟩)).imp (fun b hb => ⟨Nat.lt_of_lt_of_le hb.1 ho.size, hb.2.1, fun hm => (ha b hm).elim hb.2.2.1 (fun h2 => by have := hb.1; omega), fun hm => (hg b hm).elim hb.2.2.2.1 (fun h2 => by have := hb.1; omega), hb.2.2.2.2⟩)
  simp only [List.mem_cons, List.mem_append] at hm
  have h1 := hb.2.1
  rcases hm with e | e | e | e
  · omega
  · omega
  · exact hb.2.2.1 e
  · exact hb.2.2.2.1 e
theorem St.start (hM : B + 4 < M) (hw : M ≤ w.heap.size) (h : Caps w B now retry tries (.slice none 0 0) (.slice none 0 0)) (X : List Nat) : St w B M now retry tries [] [] (.slice none 0 0) (.slice none 0 0) X :=
  ⟨h, World.ownsRow_nil _ _ _ _, World.ownsRow_nil _ _ _ _, fun _ h => (by cases h), fun _ h => (by cases h), fun _ h => (by cases h), by simp, by simp, hM, hw⟩
end
/-- What the closure leaves. -/
def LQ (W : World) (x : Sq) (t d : Int) (r : Bool) (B M : Nat) (now retry tries : Int) (kA kG : List Sq) (ag gv : Value) (X : List Nat) (w' : World) : Prop :=
  ∃ kA' kG' ag' gv', Only ((B + 3) :: (B + 4) :: (blocks ag ++ blocks gv)) W w' ∧ Moves W.heap.size (blocks ag) (blocks ag') ∧ Moves W.heap.size (blocks gv) (blocks gv') ∧ St w' B M now retry tries kA' kG' ag' gv' X ∧
    (if r = true then [{ x.core with tries := t, due := d }] else []) = restS now retry tries [x.core] ∧ kA'.map bk = kA.map bk ++ (againS now tries [x.core]).map bk ∧ kG'.map bk = kG.map bk ++ (givenS now tries [x.core]).map bk ∧ kA'.length ≤ kA.length + 1 ∧ kG'.length ≤ kG.length + 1
theorem fate_any (x : Sq) (B M : Nat) (now retry tries : Int) (kA kG : List Sq) (ag gv : Value) (X : List Nat) (W : World) (hX : ∀ b, b ∈ X → b < W.heap.size) (h : St W B M now retry tries kA kG ag gv X) (hx : x.At (Far W B ag gv X) W) (htb : 0 ≤ x.tries ∧ x.tries ≤ 1000000) (hl : x.sp.length ≤ 1000000) (hn : kA.length ≤ 1000000) (hn2 : kG.length ≤ 1000000) :
    Calls Try.prog 76 #[.agg #[.int .i64 x.node, .int .i64 x.seq, .slice x.pa x.sp.length x.pcap, .int .i64 x.tries, .int .i64 x.due], .pointer (some ⟨B, 0, none⟩), .pointer (some ⟨B + 2, 0, none⟩), .pointer (some ⟨B + 4, 0, none⟩), .pointer (some ⟨B + 3, 0, none⟩), .pointer (some ⟨B + 1, 0, none⟩)] W fun e w' => ∃ t d r, e = .returned (.tuple #[.agg #[.int .i64 x.node, .int .i64 x.seq, .slice x.pa x.sp.length x.pcap, .int .i64 t, .int .i64 d], .bool r]) ∧ Hid (LQ W x t d r B M now retry tries kA kG ag gv X w') := by
  by_cases h0 : clk now < x.due
  · have hf : fate now tries x.core = 0 := if_pos h0
    refine (litA x B now retry tries ag gv W h.caps h0).mono ?_
    rintro e w' ⟨rfl, hb⟩
    refine ⟨x.tries, x.due, true, rfl, hid ⟨kA, kG, ag, gv, Only.of_below hb, Moves.refl _ _, Moves.refl _ _, h.later hb, ?_, ?_, ?_, by omega, by omega⟩⟩
    · simp [restS, hf]; rfl
    · simp [againS, hf]
    · simp [givenS, hf]
  by_cases h1 : tries ≤ x.tries
  · have hf : fate now tries x.core = 1 := by unfold fate; rw [if_neg (show ¬ clk now < x.core.due from h0), if_pos (show tries ≤ x.core.tries from h1)]
    refine (litB2 x B M now retry tries kA kG ag gv X W hX h hx h0 h1 hn2).mono ?_
    rintro e w' ⟨gv', rfl, hq⟩
    obtain ⟨ho, hm, hst⟩ := hq.out
    refine ⟨x.tries, x.due, false, rfl, hid ⟨kA, kG ++ [x], ag, gv', ho.mono ?_, Moves.refl _ _, hm, hst, ?_, ?_, ?_, by omega, by simp⟩⟩
    · intro k hk
      simp only [List.mem_cons, List.mem_append] at hk ⊢
      rcases hk with e | e
      · exact .inr (.inl e)
      · exact .inr (.inr (.inr e))
    · simp [restS, hf]
    · simp [againS, hf]
    · simp [givenS, hf]; rfl
  · have hf : fate now tries x.core = 2 := by unfold fate; rw [if_neg (show ¬ clk now < x.core.due from h0), if_neg (show ¬ tries ≤ x.core.tries from h1)]
    refine (litC2 x B M now retry tries kA kG ag gv X W hX h hx h0 h1 htb hl hn).mono ?_
    rintro e w' ⟨ag', k', rfl, hq⟩
    obtain ⟨hbk, ho, hm, hst⟩ := hq.out
    refine ⟨x.tries + 1, dueI now retry, true, rfl, hid ⟨kA ++ [k'], kG, ag', gv, ho.mono ?_, hm, Moves.refl _ _, hst, ?_, ?_, ?_, by simp, by omega⟩⟩
    · intro k hk
      simp only [List.mem_cons, List.mem_append] at hk ⊢
      rcases hk with e | e
      · exact .inl e
      · exact .inr (.inr (.inl e))
    · simp [restS, hf]; rfl
    · simp [againS, hf, hbk]; rfl
    · simp [givenS, hf]
/-- Behind the first i batches. -/
def EI (w1 : World) (B : Nat) (now retry tries : Int) (l1 : List Sq) (i : Nat) (ro : Value) (wr : World) : Prop :=
  ∃ (kR kA kG : List Sq) (ag gv : Value), St wr B w1.heap.size now retry tries kA kG ag gv (blocks ro) ∧ wr.ownsRow w1.heap.size 93 5 ro kR.length (kR.flatMap Sq.enc) ∧ (∀ k ∈ kR, k.At (Far wr B ag gv (blocks ro)) wr) ∧ Only [B + 3, B + 4] w1 wr ∧
    kR.map Sq.core = restS now retry tries ((l1.take i).map Sq.core) ∧ kA.map bk = (againS now tries ((l1.take i).map Sq.core)).map bk ∧ kG.map bk = (givenS now tries ((l1.take i).map Sq.core)).map bk ∧ kR.length ≤ i ∧ kA.length ≤ i ∧ kG.length ≤ i
theorem restS_snoc (now retry tries : Int) (l1 : List Sq) (i : Nat) (hi : i < l1.length) : restS now retry tries ((l1.take (i + 1)).map Sq.core) = restS now retry tries ((l1.take i).map Sq.core) ++ restS now retry tries [l1[i].core] := by
  rw [List.take_succ_eq_append_getElem hi, List.map_append]; simp [restS, List.flatMap_append]
theorem againS_snoc (now tries : Int) (l1 : List Sq) (i : Nat) (hi : i < l1.length) : againS now tries ((l1.take (i + 1)).map Sq.core) = againS now tries ((l1.take i).map Sq.core) ++ againS now tries [l1[i].core] := by
  rw [List.take_succ_eq_append_getElem hi, List.map_append]; simp [againS, List.filter_append]
theorem givenS_snoc (now tries : Int) (l1 : List Sq) (i : Nat) (hi : i < l1.length) : givenS now tries ((l1.take (i + 1)).map Sq.core) = givenS now tries ((l1.take i).map Sq.core) ++ givenS now tries [l1[i].core] := by
  rw [List.take_succ_eq_append_getElem hi, List.map_append]; simp [givenS, List.filter_append]
end C26
end Go.Proofs.Ytcohcanakicmpaa
namespace Go.Proofs.Ytcohcanakicmpaa
open Go.RowKit Go.Peri
open Gen (flat_set set_mid get_mid map_take_snoc owns_at owns_num owns_le owns_below owns_form)
namespace C26
open Sq (rest ixQ atQ total bk benc)
/-- What each leaves. -/
def EachR (W : World) (B : Nat) (now retry tries : Int) (cl : List Sq) (v : Value) (w' : World) : Prop :=
  ∃ (kR kA kG : List Sq) (ag gv : Value) (M : Nat), St w' B M now retry tries kA kG ag gv (blocks v) ∧ w'.ownsRow M 93 5 v kR.length (kR.flatMap Sq.enc) ∧ (∀ k ∈ kR, k.At (Far w' B ag gv (blocks v)) w') ∧ Only [B + 3, B + 4] W w' ∧
    kR.map Sq.core = restS now retry tries cl ∧ kA.map bk = (againS now tries cl).map bk ∧ kG.map bk = (givenS now tries cl).map bk
/-- A round that keeps the batch. -/
theorem ei_keep {w1 w3 w4 w5 : World} {B : Nat} {now retry tries : Int} {l1 : List Sq} {i : Nat} {ro ro' : Value} {kR kA kG kA' kG' : List Sq} {ag' gv' : Value} {t d : Int} (hBM : B + 4 < w1.heap.size) (hi : i < l1.length)
    (hst : St w3 B w1.heap.size now retry tries kA' kG' ag' gv' (blocks ro)) (hro : ∀ b, b ∈ blocks ro → w1.heap.size ≤ b) (hkR : ∀ k ∈ kR, k.At (Far w3 B ag' gv' (blocks ro)) w3) (ho : Only [B + 3, B + 4] w1 w3)
    (hx : l1[i].At (Far w3 B ag' gv' (blocks ro)) w3) (hb4 : Below w3.heap.size w3 w4) (ho5 : Only (blocks ro) w4 w5) (hm5 : Moves w4.heap.size (blocks ro) (blocks ro')) (hown : w5.ownsRow w1.heap.size 93 5 ro' (kR.length + 1) (kR.flatMap Sq.enc ++ Sq.enc { l1[i] with tries := t, due := d }))
    (h1 : kR.map Sq.core = restS now retry tries ((l1.take i).map Sq.core)) (h2 : kA.map bk = (againS now tries ((l1.take i).map Sq.core)).map bk) (h3 : kG.map bk = (givenS now tries ((l1.take i).map Sq.core)).map bk)
    (q1 : [{ l1[i].core with tries := t, due := d }] = restS now retry tries [l1[i].core]) (q2 : kA'.map bk = kA.map bk ++ (againS now tries [l1[i].core]).map bk) (q3 : kG'.map bk = kG.map bk ++ (givenS now tries [l1[i].core]).map bk)
    (n1 : kR.length ≤ i) (n2 : kA'.length ≤ i + 1) (n3 : kG'.length ≤ i + 1) :
    EI w1 B now retry tries l1 (i + 1) ro' w5 := by
  have st4 := hst.later hb4
  have hxx : ∀ b, b ∈ blocks ro → B + 4 < b := fun b hb => by have := hro b hb; omega
  have st5 := st4.move ho5 hm5 hxx
  have up : ∀ k : Sq, k.At (Far w3 B ag' gv' (blocks ro)) w3 → k.At (Far w5 B ag' gv' (blocks ro')) w5 := fun k hk =>
    at_move ho5 hm5 ((hk.below hb4 (fun b h => h.1)).imp (fun b h => h.later hb4))
  refine ⟨kR ++ [{ l1[i] with tries := t, due := d }], kA', kG', ag', gv', st5, by simpa [List.flatMap_append] using hown, ?_, ?_, ?_, ?_, ?_, by simp; omega, n2, n3⟩
  · intro k hk
    rcases List.mem_append.1 hk with hk | hk
    · exact up k (hkR k hk)
    · rw [List.mem_singleton] at hk
      subst hk
      exact up l1[i] hx
  · have o4 : Only [B + 3, B + 4] w1 w4 := ho.trans (Only.of_below hb4)
    refine ⟨ho5.os.trans o4.os, ho5.tape.trans o4.tape, ho5.output.trans o4.output, Nat.le_trans o4.size ho5.size, fun k hk hs => (ho5.block k (Nat.lt_of_lt_of_le hk o4.size) (fun hm => by have := hro k hm; omega)).trans (o4.block k hk hs)⟩
  · rw [restS_snoc _ _ _ _ _ hi, List.map_append, h1, ← q1]; rfl
  · rw [againS_snoc _ _ _ _ hi, q2, h2, List.map_append]
  · rw [givenS_snoc _ _ _ _ hi, q3, h3, List.map_append]
theorem ei_drop {w1 w3 w4 : World} {B : Nat} {now retry tries : Int} {l1 : List Sq} {i : Nat} {ro : Value} {kR kA kG kA' kG' : List Sq} {ag' gv' : Value} (hi : i < l1.length)
    (hst : St w3 B w1.heap.size now retry tries kA' kG' ag' gv' (blocks ro)) (hown : w3.ownsRow w1.heap.size 93 5 ro kR.length (kR.flatMap Sq.enc)) (hkR : ∀ k ∈ kR, k.At (Far w3 B ag' gv' (blocks ro)) w3) (ho : Only [B + 3, B + 4] w1 w3) (hb4 : Below w3.heap.size w3 w4)
    (h1 : kR.map Sq.core = restS now retry tries ((l1.take i).map Sq.core)) (h2 : kA.map bk = (againS now tries ((l1.take i).map Sq.core)).map bk) (h3 : kG.map bk = (givenS now tries ((l1.take i).map Sq.core)).map bk)
    (q1 : [] = restS now retry tries [l1[i].core]) (q2 : kA'.map bk = kA.map bk ++ (againS now tries [l1[i].core]).map bk) (q3 : kG'.map bk = kG.map bk ++ (givenS now tries [l1[i].core]).map bk)
    (n1 : kR.length ≤ i) (n2 : kA'.length ≤ i + 1) (n3 : kG'.length ≤ i + 1) :
    EI w1 B now retry tries l1 (i + 1) ro w4 := by
  refine ⟨kR, kA', kG', ag', gv', hst.later hb4, owns_below hown hb4, fun k hk => ((hkR k hk).below hb4 (fun b h => h.1)).imp (fun b h => h.later hb4), ho.trans (Only.of_below hb4), ?_, ?_, ?_, by omega, n2, n3⟩
  · rw [restS_snoc _ _ _ _ _ hi, h1, ← q1, List.append_nil]
  · rw [againS_snoc _ _ _ _ hi, q2, h2, List.map_append]
  · rw [givenS_snoc _ _ _ _ hi, q3, h3, List.map_append]
set_option maxRecDepth 100000 in
set_option maxHeartbeats 8000000 in
theorem each_any {p : Nat → Prop} (v : Value) (l : List Sq) (B : Nat) (now retry tries : Int) (W : World) (h : RowsOf p Sq.enc 5 W v l) (hp : ∀ b, p b → b < W.heap.size) (hl : l.length ≤ 100000) (ha : ∀ x ∈ l, x.At (· < W.heap.size) W) (hps : ∀ x ∈ l, x.sp.length ≤ 1000000) (htb : ∀ x ∈ l, 0 ≤ x.tries ∧ x.tries ≤ 1000000)
    (hc : Caps W B now retry tries (.slice none 0 0) (.slice none 0 0)) :
    Calls Try.prog 75 #[v, .func (.func 76) #[] #[.pointer (some ⟨B, 0, none⟩), .pointer (some ⟨B + 2, 0, none⟩), .pointer (some ⟨B + 4, 0, none⟩), .pointer (some ⟨B + 3, 0, none⟩), .pointer (some ⟨B + 1, 0, none⟩)]] W (Ret (EachR W B now retry tries (l.map Sq.core))) := by
  have HC := hid (copied_any v l W h hp (by omega) ha hps)
  have HCP := hid hc
  have HBW := hid hc.lt
  obtain ⟨a, cap, rfl, -⟩ := h
  obtain ⟨n, hn⟩ : ∃ n, n = l.length := ⟨_, rfl⟩
  rw [← hn] at HC hl ⊢
  have HPS : Hid (∀ k : Sq, k.core ∈ l.map Sq.core → k.sp.length ≤ 1000000 ∧ 0 ≤ k.tries ∧ k.tries ≤ 1000000) := hid (fun k hk => by
    obtain ⟨x, hx, e⟩ := List.mem_map.1 hk
    obtain ⟨e1, e2, e3, e4, e5⟩ := Sq.core_eq e
    rw [← e3, ← e4]
    exact ⟨hps x hx, htb x hx⟩)
  have HN := hid hn
  clear ha hp hps htb hc hn
  go_enter Try.func75, Try.ntmps75
  go_wp2_with fail
  refine HC.out.mono ?_
  rintro e w1 ⟨v1, rfl, l1, hc1, hb1, hown, hcop⟩
  rw [← HN.out] at hown
  have hln : l1.length = n := by
    have := congrArg List.length hc1
    simp only [List.length_map] at this
    rw [this, HN.out]
  obtain ⟨a1, cap1, rfl⟩ := Gen.owns_form hown
  have hBw := HBW.out
  have hbs := hb1.size
  have HROW : Hid (RowsOf (fun b => W.heap.size ≤ b ∧ b < w1.heap.size) Sq.enc 5 w1 (.slice a1 n cap1) l1) := hid (by
    have := RowsOf.of_owns (enc := Sq.enc) (l := l1) (w := w1) (base := W.heap.size) (e := 93) (v := .slice a1 n cap1) Sq.enc_length (by rw [hln]; exact hown)
    exact this)
  have HAT : Hid (∀ k ∈ l1, k.At (fun b => W.heap.size ≤ b ∧ b < w1.heap.size) w1) := hid (fun k hk => RowsOf.of_owns Sp.enc_length (hcop.own k hk))
  have HC1 := hid hc1
  have HB1 := hid hb1
  have hncap : n ≤ cap1 := by
    obtain ⟨a', c', e, h2, _⟩ := HROW.out
    cases e
    rw [← hln]; exact h2
  have hBM : B + 4 < w1.heap.size := by omega
  have HE0 : Hid (EI w1 B now retry tries l1 0 (.slice none 0 0) w1) := hid ⟨[], [], [], .slice none 0 0, .slice none 0 0, St.start hBM (Nat.le_refl _) (HCP.out.later hb1) _, World.ownsRow_nil _ _ _ _, by simp, Only.refl _ _, rfl, rfl, rfl, by simp, by simp, by simp⟩
  clear hc1 hb1 hown hcop HC HCP
  go_wp2_with fail
  go_loopw [5, 13] (fun s5 s13 wr => ∃ i : Nat, i ≤ n ∧ s13 = .int .i64 i ∧ Hid (EI w1 B now retry tries l1 i s5 wr)) (fun _ i _ => n - (intOf i).toNat)
  case atStart => exact ⟨0, Nat.zero_le _, rfl, HE0⟩
  case round =>
    obtain ⟨i, hi, rfl, HE⟩ := hrel
    obtain ⟨kR, kA, kG, ag, gv, hst, hro, hkR, ho, e1, e2, e3, n1, n2, n3⟩ := HE.out
    obtain ⟨ra, rc, rfl⟩ := Gen.owns_form hro
    have HST := hid hst
    have HRO := hid hro
    have HKR := hid hkR
    have HO := hid ho
    have HE1 := hid e1
    have HE2 := hid e2
    have HE3 := hid e3
    clear hst hro hkR ho e1 e2 e3
    by_cases hlt : i < n
    · have hil : i < l1.length := by omega
      obtain ⟨b, off, rfl, hpb, hcl⟩ : ∃ b off, a1 = some ⟨b, off, none⟩ ∧ (W.heap.size ≤ b ∧ b < w1.heap.size) ∧ ∀ j u, l1[i].enc[j]? = some u → w1.cell? ⟨b, off + i * 5 + j, none⟩ = some u := by
        obtain ⟨a', c', e, _, _, _, h5⟩ := HROW.out
        cases e
        obtain ⟨b, off, h1, h2, h3⟩ := h5.resolve_left (by intro e; rw [e] at hil; simp at hil)
        exact ⟨b, off, h1, h2, fun j u hu => h3 i hil j u hu⟩
      obtain ⟨c0, c1, c2, c3, c4⟩ := Sq.cells (fun j u hu => (HO.out.cell (p := ⟨b, off + i * 5 + j, none⟩) hpb.2 (by simp; omega)).trans (hcl j u hu))
      have hkx : l1[i].At (Far wr B ag gv (blocks (.slice ra kR.length rc))) wr := by
        have h1 := HAT.out l1[i] (List.getElem_mem hil)
        refine (h1.only HO.out (fun b hb => ⟨hb.2, by simp; omega⟩)).imp (fun b hb => ⟨Nat.lt_of_lt_of_le hb.2 HO.out.size, by omega, fun hm => ?_, fun hm => ?_, fun hm => ?_⟩)
        · have := (owns_bd HST.out.oa b hm).1; omega
        · have := (owns_bd HST.out.og b hm).1; omega
        · have := (owns_bd HRO.out b hm).1; omega
      have hkc := HPS.out l1[i] (by rw [← HC1.out]; exact List.mem_map_of_mem (List.getElem_mem hil))
      have HKX := hid hkx
      obtain ⟨x, hx⟩ : ∃ x, x = l1[i] := ⟨_, rfl⟩
      rw [← hx] at c0 c1 c2 c3 c4 hkc HKX
      have HXE := hid hx
      clear hcl hkx hx
      go_upto_region 5 with fail
      refine wp_genF ?_
      intro w2 hw2
      have hb2 : Below wr.heap.size wr w2 := by rw [hw2]; go_grown
      have hk2 : Blk w2 wr.heap.size #[.int .i64 x.node, .int .i64 x.seq, .slice x.pa x.sp.length x.pcap, .int .i64 x.tries, .int .i64 x.due] 93 := by rw [hw2]; exact Blk.new _ _ _
      clear hw2
      have HB2 := hid hb2
      have HKX2 : Hid (x.At (Far w2 B ag gv (blocks (.slice ra kR.length rc))) w2) := hid ((HKX.out.below hb2 (fun b h => h.1)).imp (fun b h => h.later hb2))
      have X := hid (fate_any x B w1.heap.size now retry tries kA kG ag gv (blocks (.slice ra kR.length rc)) w2 (fun b hb => Nat.lt_of_lt_of_le (owns_bd HRO.out b hb).2 hb2.size) (HST.out.later hb2) HKX2.out hkc.2 hkc.1 (by omega) (by omega))
      clear hb2
      obtain ⟨y0, y1, y2, y3, y4, -⟩ := blk5' hk2
      have hl2 := hk2.lt
      clear hk2 c0 c1 c2 c3 c4
      go_wp2_with fail
      refine X.out.mono ?_
      rintro e w3 ⟨t, d, r, rfl, hlq⟩
      have HLQ := hlq
      clear hlq X y0 y1 y2 y3 y4 hl2
      go_upto_region 6 with fail
      refine wp_genF ?_
      intro w4 hw4
      have hb4 : Below w3.heap.size w3 w4 := by rw [hw4]; go_grown
      have hk4 : Blk w4 w3.heap.size #[.int .i64 x.node, .int .i64 x.seq, .slice x.pa x.sp.length x.pcap, .int .i64 t, .int .i64 d] 93 := by rw [hw4]; exact Blk.new _ _ _
      clear hw4
      obtain ⟨y0, y1, y2, y3, y4, -⟩ := blk5' hk4
      have hl4 := hk4.lt
      have HB4 := hid hb4
      clear hb4 hk4
      obtain ⟨kA', kG', ag', gv', ho3, hma, hmg, hst3, q1, q2, q3, m2, m3⟩ := HLQ.out
      have hro2 : ∀ b, b ∈ blocks (.slice ra kR.length rc) → w1.heap.size ≤ b := fun b hb => (owns_bd HRO.out b hb).1
      have hro3 : w3.ownsRow w1.heap.size 93 5 (.slice ra kR.length rc) kR.length (kR.flatMap Sq.enc) := by
        refine owns_keep (owns_below HRO.out HB2.out) ho3 (fun b hb hm => ?_)
        have h1 := hro2 b hb
        simp only [List.mem_cons, List.mem_append] at hm
        rcases hm with e | e | e | e
        · omega
        · omega
        · exact HST.out.xa b e hb
        · exact HST.out.xg b e hb
      have hkR3 : ∀ k ∈ kR, k.At (Far w3 B ag' gv' (blocks (.slice ra kR.length rc))) w3 := fun k hk => at_lit ho3 hma hmg (((HKR.out k hk).below HB2.out (fun b h => h.1)).imp (fun b h => h.later HB2.out))
      have hx3 : l1[i].At (Far w3 B ag' gv' (blocks (.slice ra kR.length rc))) w3 := by rw [← HXE.out]; exact at_lit ho3 hma hmg HKX2.out
      have ho13 : Only [B + 3, B + 4] w1 w3 := by
        have o2 : Only [B + 3, B + 4] w1 w2 := HO.out.trans (Only.of_below HB2.out)
        refine ⟨ho3.os.trans o2.os, ho3.tape.trans o2.tape, ho3.output.trans o2.output, Nat.le_trans o2.size ho3.size, fun k hk hs => (ho3.block k (Nat.lt_of_lt_of_le hk o2.size) (fun hm => ?_)).trans (o2.block k hk hs)⟩
        simp only [List.mem_cons, List.mem_append] at hm hs
        rcases hm with e | e | e | e
        · exact hs (.inl e)
        · exact hs (.inr (.inl e))
        · have := (owns_bd HST.out.oa k e).1; omega
        · have := (owns_bd HST.out.og k e).1; omega
      rw [HXE.out] at q1 q2 q3
      have h63 : kR.length + 1 ≤ maxLen := by unfold maxLen; omega
      have hby : (kR.length + 1) * 56 ≤ 140737488355328 := by omega
      have hM4 : w1.heap.size ≤ w4.heap.size := Nat.le_trans ho13.size HB4.out.size
      have HO4 : Hid (w4.ownsRow w1.heap.size 93 5 (.slice ra kR.length rc) kR.length (kR.flatMap Sq.enc)) := hid (owns_below hro3 HB4.out)
      cases r
      · rw [if_neg (by decide)] at q1
        have HF : Hid (EI w1 B now retry tries l1 (i + 1) (.slice ra kR.length rc) w4) := hid (ei_drop hil hst3 hro3 hkR3 ho13 HB4.out HE1.out HE2.out HE3.out q1 q2 q3 n1 (by omega) (by omega))
        clear ho3 hma hmg hst3 q1 q2 q3 m2 m3 hro3 hkR3 hx3 ho13 hro2
        go_wp2_with fail
        go_roundw
        case rel => exact ⟨i + 1, by omega, by go_num, HF⟩
        case measure => simp [intOf]; omega
      · rw [if_pos rfl] at q1
        have HF : Hid (∀ v5 w5, Only (blocks (.slice ra kR.length rc)) w4 w5 → Moves w4.heap.size (blocks (.slice ra kR.length rc)) (blocks v5) → w5.ownsRow w1.heap.size 93 5 v5 (kR.length + 1) (kR.flatMap Sq.enc ++ Sq.enc { x with tries := t, due := d }) → EI w1 B now retry tries l1 (i + 1) v5 w5) := hid (fun v5 w5 ho5 hm5 hown5 => by
          rw [HXE.out] at hown5
          exact ei_keep hBM hil hst3 hro2 hkR3 ho13 hx3 HB4.out ho5 hm5 hown5 HE1.out HE2.out HE3.out q1 q2 q3 n1 (by omega) (by omega))
        clear ho3 hma hmg hst3 q1 q2 q3 m2 m3 hro3 hkR3 hx3 ho13 hro2
        go_wp2_with (at_builtin; refine wpList_push_at (w0 := w4) (T := 93) (news := Sq.enc { x with tries := t, due := d }) elemQ rfl _ _ rfl w1.heap.size (.slice ra kR.length rc) kR.length _ rfl HO4.out rfl rfl rfl (by simp [Sq.enc, Value.oneCell']) h63 hby hM4 ?_; intro v5 w5 hown5 ho5 hm5; have HF2 := hid (HF.out v5 w5 ho5 hm5 hown5); clear ho5 hm5; obtain ⟨a5, cap5, rfl⟩ := Gen.owns_form hown5; clear hown5)
        go_roundw
        case rel => exact ⟨i + 1, by omega, by go_num, HF2⟩
        case measure => simp [intOf]; omega
    · have hie : i = n := by omega
      have HFIN : Hid (EachR W B now retry tries (l.map Sq.core) (.slice ra kR.length rc) wr) := hid (by
        have htk : l1.take i = l1 := List.take_of_length_le (by omega)
        have e1 := HE1.out
        have e2 := HE2.out
        have e3 := HE3.out
        rw [htk, HC1.out] at e1 e2 e3
        exact ⟨kR, kA, kG, ag, gv, w1.heap.size, HST.out, HRO.out, HKR.out, (Only.of_below HB1.out).trans HO.out, e1, e2, e3⟩)
      clear HST HRO HKR HO HE1 HE2 HE3 HE HE0
      subst hie
      go_wp2_with fail
      go_ret
      exact ⟨_, rfl, HFIN.out⟩
end C26
end Go.Proofs.Ytcohcanakicmpaa
namespace Go.Proofs.Ytcohcanakicmpaa
open Go.RowKit Go.Peri
open Gen (flat_set set_mid get_mid map_take_snoc owns_at owns_num owns_le owns_below owns_form)
namespace C26
open Sq (rest ixQ atQ total bk benc)
/-- Blocks from N on that are there. -/
def Fresh (N : Nat) (w : World) (b : Nat) : Prop := N ≤ b ∧ b < w.heap.size
/-- A slice that reads as batches under way. -/
def QR (p : Nat → Prop) (w : World) (cl : List Sq) (v : Value) : Prop := ∃ l1 : List Sq, l1.map Sq.core = cl ∧ RowsOf p Sq.enc 5 w v l1 ∧ ∀ x ∈ l1, x.At p w
/-- A slice that reads as batches. -/
def BR (p : Nat → Prop) (w : World) (bl : List (Int × Int × List Sp)) (v : Value) : Prop := ∃ l1 : List Sq, l1.map bk = bl ∧ RowsOf p benc 3 w v l1 ∧ ∀ x ∈ l1, x.At p w
section
variable {p q : Nat → Prop} {w w' : World} {S : List Nat} {B : Nat} {cl : List Sq} {bl : List (Int × Int × List Sp)} {v : Value}
theorem QR.imp (h : QR p w cl v) (hpq : ∀ b, p b → q b) : QR q w cl v := by
  obtain ⟨l1, h1, h2, h3⟩ := h
  exact ⟨l1, h1, h2.imp hpq, fun x hx => (h3 x hx).imp hpq⟩
theorem QR.only (h : QR p w cl v) (ho : Only S w w') (hp : ∀ b, p b → b < w.heap.size ∧ b ∉ S) : QR p w' cl v := by
  obtain ⟨l1, h1, h2, h3⟩ := h
  exact ⟨l1, h1, h2.only ho hp, fun x hx => (h3 x hx).only ho hp⟩
theorem QR.below (h : QR p w cl v) (ho : Below B w w') (hp : ∀ b, p b → b < B) : QR p w' cl v := by
  obtain ⟨l1, h1, h2, h3⟩ := h
  exact ⟨l1, h1, h2.below ho hp, fun x hx => (h3 x hx).below ho hp⟩
theorem QR.form (h : QR p w cl v) : ∃ a cap, v = .slice a cl.length cap := by
  obtain ⟨l1, h1, ⟨a, cap, e, _⟩, h3⟩ := h
  exact ⟨a, cap, by rw [e, ← h1, List.length_map]⟩
theorem QR.nil (p : Nat → Prop) (w : World) : QR p w [] (.slice none 0 0) := ⟨[], rfl, RowsOf.nil _ _ _ _, by simp⟩
theorem BR.imp (h : BR p w bl v) (hpq : ∀ b, p b → q b) : BR q w bl v := by
  obtain ⟨l1, h1, h2, h3⟩ := h
  exact ⟨l1, h1, h2.imp hpq, fun x hx => (h3 x hx).imp hpq⟩
theorem BR.only (h : BR p w bl v) (ho : Only S w w') (hp : ∀ b, p b → b < w.heap.size ∧ b ∉ S) : BR p w' bl v := by
  obtain ⟨l1, h1, h2, h3⟩ := h
  exact ⟨l1, h1, h2.only ho hp, fun x hx => (h3 x hx).only ho hp⟩
theorem BR.below (h : BR p w bl v) (ho : Below B w w') (hp : ∀ b, p b → b < B) : BR p w' bl v := by
  obtain ⟨l1, h1, h2, h3⟩ := h
  exact ⟨l1, h1, h2.below ho hp, fun x hx => (h3 x hx).below ho hp⟩
theorem BR.form (h : BR p w bl v) : ∃ a cap, v = .slice a bl.length cap := by
  obtain ⟨l1, h1, ⟨a, cap, e, _⟩, h3⟩ := h
  exact ⟨a, cap, by rw [e, ← h1, List.length_map]⟩
end
def SendR (W : World) (cl : List Sq) (v : Value) (w' : World) : Prop := Below W.heap.size W w' ∧ QR (Fresh W.heap.size w') w' cl v
theorem send_fin {W w1 w2 w3 w4 : World} {v2 v4 : Value} {n : Nat} {l1 : List Sq} {k k' : Sq} {cl : List Sq} {y : Sq} (hb1 : Below W.heap.size W w1) (hb2 : Below w1.heap.size w1 w2) (hb3 : Below w2.heap.size w2 w3) (hn : l1.length = n) (hown2 : w2.ownsRow w1.heap.size 93 5 v2 n (l1.flatMap Sq.enc)) (hc : l1.map Sq.core = cl) (hcop : Cop w1.heap.size w2 v2 l1)
    (hk : OwnK w2.heap.size w3 k') (hown : w4.ownsRow w1.heap.size 93 5 v4 (n + 1) (l1.flatMap Sq.enc ++ Sq.enc k)) (ho : Only (blocks v2) w3 w4) (hkk : k.pa = k'.pa ∧ k.pcap = k'.pcap ∧ k.sp = k'.sp) (hy : k.core = y) : SendR W (cl ++ [y]) v4 w4 := by
  have s1 := hb1.size
  have s2 := hb2.size
  have s3 := hb3.size
  have hbd := owns_bd hown2
  have o4 : Below w1.heap.size w3 w4 := ho.below (by omega) (fun b hb => (hbd b hb).1)
  have hB : Below W.heap.size W w4 := hb1.trans (((hb2.trans (hb3.mono s2)).trans o4).mono s1)
  refine ⟨hB, l1 ++ [k], by rw [List.map_append, hc, List.map_singleton, hy], ?_, fun x hx => ?_⟩
  · have hr : RowsOf (fun b => w1.heap.size ≤ b ∧ b < w4.heap.size) Sq.enc 5 w4 v4 (l1 ++ [k]) := RowsOf.of_owns (enc := Sq.enc) (l := l1 ++ [k]) Sq.enc_length (by
      rw [List.flatMap_append, List.length_append, hn]; simpa using hown)
    exact hr.imp (fun b hb => ⟨by have := hb.1; omega, hb.2⟩)
  · rcases List.mem_append.1 hx with hx | hx
    · have h2 := hcop.own x hx
      have h3 := owns_keep (owns_below h2 hb3) ho (hcop.far x hx)
      exact RowsOf.imp (RowsOf.of_owns Sp.enc_length h3) (fun b hb => ⟨by have := hb.1; omega, hb.2⟩)
    · rw [List.mem_singleton] at hx
      subst hx
      have h3 : OwnK w2.heap.size w4 k' := owns_keep hk ho (fun b hb hm => by have h1 := (OwnK.bd hk b hb).1; have h2 := (hbd b hm).2; omega)
      have h4 : k'.At (Fresh W.heap.size w4) w4 := RowsOf.imp (RowsOf.of_owns Sp.enc_length h3) (fun b hb => ⟨by have := hb.1; omega, hb.2⟩)
      unfold Sq.At at h4 ⊢
      rw [hkk.1, hkk.2.1, hkk.2.2]
      exact h4
set_option maxRecDepth 100000 in
set_option maxHeartbeats 8000000 in
theorem send_any {p : Nat → Prop} (v : Value) (cl : List Sq) (k : Sq) (now retry : Int) (W : World) (hq : QR p W cl v) (hp : ∀ b, p b → b < W.heap.size) (h : k.At (· < W.heap.size) W) (hl : k.sp.length ≤ 1000000) (hcl : cl.length ≤ 100000) (hsp : ∀ x ∈ cl, x.sp.length ≤ 1000000) :
    Calls Try.prog 81 #[v, .agg #[.int .i64 k.node, .int .i64 k.seq, .slice k.pa k.sp.length k.pcap], .int .i64 now, .int .i64 retry] W (Ret (SendR W (cl ++ [{ k.core with tries := 1, due := dueI now retry }]))) := by
  have HAT := hid h
  obtain ⟨av, cv, rfl⟩ := hq.form
  obtain ⟨n, hn⟩ : ∃ n, n = cl.length := ⟨_, rfl⟩
  rw [← hn] at hcl hq ⊢
  have HQ := hid hq
  have HP := hid hp
  have HSP := hid hsp
  have HN := hid hn
  clear h hq hp hsp hn
  go_enter Try.func81, Try.ntmps81
  go_upto_region 1 with fail
  refine wp_genF ?_
  intro w1 hw1
  have hb1 : Below W.heap.size W w1 := by rw [hw1]; go_grown
  have hk1 : Blk w1 W.heap.size #[.int .i64 k.node, .int .i64 k.seq, .slice k.pa k.sp.length k.pcap] 45 := by rw [hw1]; exact Blk.new _ _ _
  clear hw1
  have HB1 := hid hb1
  have HK1 := hid hk1
  have hlt := hk1.lt
  have KEEP : Hid (∀ w', Below w1.heap.size w1 w' → w'.cell? ⟨W.heap.size, 0, none⟩ = some (.int .i64 k.node) ∧ w'.cell? ⟨W.heap.size, 1, none⟩ = some (.int .i64 k.seq) ∧ w'.cell? ⟨W.heap.size, 2, none⟩ = some (.slice k.pa k.sp.length k.pcap)) := hid (fun w' hb => ⟨(HK1.out.later hb).cell 0, (HK1.out.later hb).cell 1, (HK1.out.later hb).cell 2⟩)
  have XC : Hid (∀ w', Below w1.heap.size w1 w' → Calls Try.prog 62 #[.slice av n cv] w' fun e w'' => ∃ a2 c2, ∃ l1 : List Sq, e = .returned (.slice a2 n c2) ∧ Below w1.heap.size w1 w'' ∧ Hid (l1.length = n ∧ l1.map Sq.core = cl ∧ w''.ownsRow w1.heap.size 93 5 (.slice a2 n c2) n (l1.flatMap Sq.enc) ∧ Cop w1.heap.size w'' (.slice a2 n c2) l1)) := hid (fun w' hb => by
    have hbb := HB1.out.trans (hb.mono HB1.out.size)
    obtain ⟨l0, h1, h2, h3⟩ := HQ.out.below hbb HP.out
    have hl0 : l0.length = n := by rw [HN.out, ← h1, List.length_map]
    have hp2 : ∀ b, p b → b < w'.heap.size := fun b hb' => Nat.lt_of_lt_of_le (HP.out b hb') hbb.size
    refine (copied_any (.slice av n cv) l0 w' h2 hp2 (by omega) (fun x hx => (h3 x hx).imp hp2) (fun x hx => ?_)).mono ?_
    · have : x.core ∈ cl := by rw [← h1]; exact List.mem_map_of_mem hx
      exact HSP.out x.core this
    · rintro e w'' ⟨v2, rfl, l1, hc1, hb2, hown, hcop⟩
      rw [hl0] at hown
      obtain ⟨a2, c2, rfl⟩ := Gen.owns_form hown
      have hln : l1.length = n := by
        have := congrArg List.length hc1
        simp only [List.length_map] at this
        rw [this, hl0]
      exact ⟨a2, c2, l1, rfl, hb.trans (hb2.mono hb.size), hid ⟨hln, by rw [hc1, h1], owns_le hown hb.size, ⟨fun x hx => (hcop.own x hx).le hb.size, hcop.far⟩⟩⟩)
  have XO : Hid (∀ w', Below w1.heap.size w1 w' → Calls Try.prog 78 #[.agg #[.int .i64 k.node, .int .i64 k.seq, .slice k.pa k.sp.length k.pcap]] w' fun e w'' => ∃ pa pcap, e = .returned (.agg #[.int .i64 k.node, .int .i64 k.seq, .slice pa k.sp.length pcap]) ∧ Below w1.heap.size w1 w'' ∧ Hid (OwnK w'.heap.size w'' { k with pa := pa, pcap := pcap } ∧ Below w'.heap.size w' w'')) := hid (fun w' hb => by
    refine (own_any (p := (· < W.heap.size)) k w' (HAT.out.below (HB1.out.trans (hb.mono HB1.out.size)) (fun _ h => h)) (fun b hb' => Nat.lt_of_lt_of_le hb' (HB1.out.trans (hb.mono HB1.out.size)).size) hl).mono ?_
    rintro e w'' ⟨v, rfl, pa, pcap, rfl, hb2, ho⟩
    exact ⟨pa, pcap, rfl, hb.trans (hb2.mono hb.size), hid ⟨ho, hb2⟩⟩)
  have XD := hid (fun w' => due_any now retry w')
  obtain ⟨dd, hdd⟩ : ∃ d, dueI now retry = d := ⟨_, rfl⟩
  rw [hdd] at XD
  have HDD := hid hdd
  clear hdd hb1 hk1
  obtain ⟨z0, z1, z2⟩ := KEEP.out w1 (Below.refl _ _)
  have h63 : n + 1 ≤ maxLen := by unfold maxLen; omega
  have hby : (n + 1) * 56 ≤ 140737488355328 := by omega
  go_wp2_with fail
  refine wp_region_held_drew (S := (fun w' => w'.cell? ⟨W.heap.size, 0, none⟩ = some (.int .i64 k.node) ∧ w'.cell? ⟨W.heap.size, 1, none⟩ = some (.int .i64 k.seq) ∧ w'.cell? ⟨W.heap.size, 2, none⟩ = some (.slice k.pa k.sp.length k.pcap))) (by kernel_rfl) (by (refine KEEP.out _ ?_; (repeat' (first | assumption | (with_reducible exact Below.refl _ _) | (with_reducible refine Below.drew ?_) | (with_reducible refine Below.alloc ?_ (by first | exact Nat.le_refl _ | (exact Below.size (by assumption)) | (simp; done) | (simp; omega)) _))))) (fun hHeld => ?_)
  refine wpAnyH_take (i := 0) (oi := ⟨_, _, _, _, _, _⟩) (v := ?_) rfl (by kernel_rfl) (by kernel_rfl) (by kernel_rfl) (fun _ _ _ h => h) (Or.inl ⟨by rfl, ?_⟩) hHeld ?_
  rotate_left
  · (intro w hSw; (try dsimp only at hSw); go_simp) <;> with_reducible rfl
  try simp only [Act.put, List.setIfInBounds_toArray, List.set_cons_zero, List.set_cons_succ]
  refine wpAnyH_take (i := 2) (oi := ⟨_, _, _, _, _, _⟩) (v := ?_) rfl (by kernel_rfl) (by kernel_rfl) (by kernel_rfl) (fun _ _ _ h => h) (Or.inl ⟨by rfl, ?_⟩) hHeld ?_
  rotate_left
  · (intro w hSw; (try dsimp only at hSw); go_simp) <;> with_reducible rfl
  try simp only [Act.put, List.setIfInBounds_toArray, List.set_cons_zero, List.set_cons_succ]
  refine wpAnyH_take (i := 4) (oi := ⟨_, _, _, _, _, _⟩) (v := ?_) rfl (by kernel_rfl) (by kernel_rfl) (by kernel_rfl) (fun _ _ _ h => h) (Or.inl ⟨by rfl, ?_⟩) hHeld ?_
  rotate_left
  · (intro w hSw; (try dsimp only at hSw); go_simp) <;> with_reducible rfl
  try simp only [Act.put, List.setIfInBounds_toArray, List.set_cons_zero, List.set_cons_succ]
  refine wpAnyH_take (i := 5) (oi := ⟨_, _, _, _, _, _⟩) (v := ?_) rfl (by kernel_rfl) (by kernel_rfl) (by kernel_rfl) (fun _ _ _ h => h) (Or.inl ⟨by rfl, ?_⟩) hHeld ?_
  rotate_left
  · (intro w hSw; (try dsimp only at hSw); go_simp) <;> with_reducible rfl
  try simp only [Act.put, List.setIfInBounds_toArray, List.set_cons_zero, List.set_cons_succ]
  refine wpAnyH_ready (rs := [1]) (by kernel_rfl) (by simp) ?_
  refine AllReadyH.cons (o := ⟨_, _, _, _, _, _⟩) rfl (fun K hK => ?_) AllReadyH.nil
  clear hHeld
  go_simp
  go_at_call 62
  refine (XC.out _ (by first | assumption | exact Below.refl _ _ | exact (Below.refl _ _).drew)).mono ?_
  rintro e w2 ⟨a2, c2, l1, rfl, hB2, hQ2⟩
  refine hK.out _ _ (by (refine KEEP.out _ ?_; (repeat' (first | assumption | (with_reducible exact Below.refl _ _) | (with_reducible refine Below.drew ?_) | (with_reducible refine Below.alloc ?_ (by first | exact Nat.le_refl _ | (exact Below.size (by assumption)) | (simp; done) | (simp; omega)) _))))) (fun hHeld => ?_)
  clear hK K
  try simp only [Act.put, List.setIfInBounds_toArray, List.set_cons_zero, List.set_cons_succ]
  refine wpAnyH_ready (rs := [3]) (by kernel_rfl) (by simp) ?_
  refine AllReadyH.cons (o := ⟨_, _, _, _, _, _⟩) rfl (fun K hK => ?_) AllReadyH.nil
  clear hHeld
  go_simp
  go_at_call 78
  refine (XO.out _ hB2).mono ?_
  rintro e w3 ⟨pa, pcap, rfl, hB3, hO3⟩
  refine hK.out _ _ (by (refine KEEP.out _ ?_; (repeat' (first | assumption | (with_reducible exact Below.refl _ _) | (with_reducible refine Below.drew ?_) | (with_reducible refine Below.alloc ?_ (by first | exact Nat.le_refl _ | (exact Below.size (by assumption)) | (simp; done) | (simp; omega)) _))))) (fun hHeld => ?_)
  clear hK K
  try simp only [Act.put, List.setIfInBounds_toArray, List.set_cons_zero, List.set_cons_succ]
  refine wpAnyH_ready (rs := [6]) (by kernel_rfl) (by simp) ?_
  refine AllReadyH.cons (o := ⟨_, _, _, _, _, _⟩) rfl (fun K hK => ?_) AllReadyH.nil
  clear hHeld
  go_simp
  go_at_call 79
  refine (XD.out _).mono ?_
  rintro e w' ⟨rfl, rfl⟩
  refine hK.out _ _ (by (refine KEEP.out _ ?_; (repeat' (first | assumption | (with_reducible exact Below.refl _ _) | (with_reducible refine Below.drew ?_) | (with_reducible refine Below.alloc ?_ (by first | exact Nat.le_refl _ | (exact Below.size (by assumption)) | (simp; done) | (simp; omega)) _))))) (fun hHeld => ?_)
  clear hK K
  try simp only [Act.put, List.setIfInBounds_toArray, List.set_cons_zero, List.set_cons_succ]
  refine wpAnyH_take (i := 7) (oi := ⟨_, _, _, _, _, _⟩) (v := ?_) rfl (by kernel_rfl) (by kernel_rfl) (by kernel_rfl) (fun _ _ _ h => h) (Or.inl ⟨by rfl, ?_⟩) hHeld ?_
  rotate_left
  · (intro w hSw; (try dsimp only at hSw); go_simp) <;> with_reducible rfl
  try simp only [Act.put, List.setIfInBounds_toArray, List.set_cons_zero, List.set_cons_succ]
  refine wpAnyH_ready (rs := [8]) (by kernel_rfl) (by simp) ?_
  refine AllReadyH.cons (o := ⟨_, _, _, _, _, _⟩) rfl (fun K hK => ?_) AllReadyH.nil
  clear hHeld
  go_simp
  refine hK.out _ _ (by (refine KEEP.out _ ?_; (repeat' (first | assumption | (with_reducible exact Below.refl _ _) | (with_reducible refine Below.drew ?_) | (with_reducible refine Below.alloc ?_ (by first | exact Nat.le_refl _ | (exact Below.size (by assumption)) | (simp; done) | (simp; omega)) _))))) (fun hHeld => ?_)
  clear hK K
  try simp only [Act.put, List.setIfInBounds_toArray, List.set_cons_zero, List.set_cons_succ]
  refine wpAnyH_ready (rs := [9]) (by kernel_rfl) (by simp) ?_
  refine AllReadyH.cons (o := ⟨_, _, _, _, _, _⟩) rfl (fun K hK => ?_) AllReadyH.nil
  clear hHeld
  refine step_push_at elemQ rfl (.tmp 10) (.tmp 17) rfl w1.heap.size (.slice a2 n c2) n (l1.flatMap Sq.enc) (Sq.enc { k with pa := pa, pcap := pcap, tries := 1, due := dd }) (by simp [Act.eval]) (owns_below hQ2.out.2.2.1 hO3.out.2) (w0 := w3) rfl (by simp [Act.eval]) rfl (by simp [Sq.enc, Value.oneCell']) h63 hby hB3.size ?_
  intro hb4 cap4 w4 hown4 ho4 hmv4
  have hB4 : Below w1.heap.size w1 w4 := hB3.trans (Only.below ho4 hB3.size (fun b hb => (owns_bd hQ2.out.2.2.1 b hb).1))
  have HFIN := hid (send_fin (y := { k.core with tries := 1, due := dueI now retry }) HB1.out hB2 hO3.out.2 hQ2.out.1 hQ2.out.2.2.1 hQ2.out.2.1 hQ2.out.2.2.2 hO3.out.1 hown4 ho4 ⟨rfl, rfl, rfl⟩ (by rw [HDD.out]; rfl))
  clear hown4 ho4 hmv4
  refine hK.out _ _ (by (refine KEEP.out _ ?_; (repeat' (first | assumption | (with_reducible exact Below.refl _ _) | (with_reducible refine Below.drew ?_) | (with_reducible refine Below.alloc ?_ (by first | exact Nat.le_refl _ | (exact Below.size (by assumption)) | (simp; done) | (simp; omega)) _))))) (fun hHeld => ?_)
  clear hK K
  try simp only [Act.put, List.setIfInBounds_toArray, List.set_cons_zero, List.set_cons_succ]
  refine wpAnyH_take (i := 10) (oi := ⟨_, _, _, _, _, _⟩) (v := ?_) rfl (by kernel_rfl) (by kernel_rfl) (by kernel_rfl) (fun _ _ _ h => h) (Or.inl ⟨by rfl, ?_⟩) hHeld ?_
  rotate_left
  · (intro w hSw; (try dsimp only at hSw); go_simp) <;> with_reducible rfl
  try simp only [Act.put, List.setIfInBounds_toArray, List.set_cons_zero, List.set_cons_succ]
  refine wpAnyH_done (by kernel_rfl) ?_ _
  go_wp2_with fail
  go_ret
  exact ⟨_, rfl, HFIN.out⟩
end C26
end Go.Proofs.Ytcohcanakicmpaa
namespace Go.Proofs.Ytcohcanakicmpaa
open Go.RowKit Go.Peri
open Gen (flat_set set_mid get_mid map_take_snoc owns_at owns_num owns_le owns_below owns_form)
namespace C26
open Sq (rest ixQ atQ total bk benc)
/-- A row of batches of one's own; where their spans lie is not in it. -/
def BO (N : Nat) (w : World) (bl : List (Int × Int × List Sp)) (v : Value) : Prop := ∃ kA : List Sq, kA.map bk = bl ∧ w.ownsRow N 45 3 v kA.length (kA.flatMap benc) ∧ ∀ x ∈ kA, x.At (fun b => N ≤ b ∧ b < w.heap.size ∧ b ∉ blocks v) w
theorem BO.only {N : Nat} {S : List Nat} {w w' : World} {bl : List (Int × Int × List Sp)} {v : Value} (h : BO N w bl v) (ho : Only S w w') (hs : ∀ b, N ≤ b → b < w.heap.size → b ∉ S) : BO N w' bl v := by
  obtain ⟨k, h1, h2, h3⟩ := h
  exact ⟨k, h1, owns_keep h2 ho (fun b hb hm => hs b (owns_bd h2 b hb).1 (owns_bd h2 b hb).2 hm), fun x hx => ((h3 x hx).only ho (fun b hb => ⟨hb.2.1, hs b hb.1 hb.2.1⟩)).imp (fun b hb => ⟨hb.1, Nat.lt_of_lt_of_le hb.2.1 ho.size, hb.2.2⟩)⟩
theorem BO.le {N M : Nat} {w : World} {bl : List (Int × Int × List Sp)} {v : Value} (h : BO M w bl v) (hN : N ≤ M) : BO N w bl v := by
  obtain ⟨k, h1, h2, h3⟩ := h
  exact ⟨k, h1, owns_le h2 hN, fun x hx => (h3 x hx).imp (fun b hb => ⟨by omega, hb.2⟩)⟩
theorem BO.br {N : Nat} {w : World} {bl : List (Int × Int × List Sp)} {v : Value} (h : BO N w bl v) : BR (Fresh N w) w bl v := by
  obtain ⟨k, h1, h2, h3⟩ := h
  have hr : RowsOf (fun b => N ≤ b ∧ b < w.heap.size) benc 3 w v k := RowsOf.of_owns (enc := benc) benc_len h2
  exact ⟨k, h1, hr, fun x hx => (h3 x hx).imp (fun b hb => ⟨hb.1, hb.2.1⟩)⟩
def StepR (W : World) (cl : List Sq) (now retry tries : Int) (v : Value) (w' : World) : Prop :=
  Below W.heap.size W w' ∧ ∃ v1 va vg, v = .tuple #[v1, va, vg] ∧ QR (Fresh W.heap.size w') w' (restS now retry tries cl) v1 ∧ BO W.heap.size w' ((againS now tries cl).map bk) va ∧ BR (Fresh W.heap.size w') w' ((givenS now tries cl).map bk) vg
theorem Caps.drewF {w : World} {B : Nat} {now retry tries : Int} {ag gv : Value} (h : Caps w B now retry tries ag gv) : Caps w.drew B now retry tries ag gv := ⟨h.now.drew, h.retry.drew, h.tries.drew, h.ag.drew, h.gv.drew⟩
theorem far_br {w : World} {B M : Nat} {ag gv v : Value} {X : List Nat} {k : List Sq} (hown : w.ownsRow M 45 3 v k.length (k.flatMap benc)) (hM : B + 4 < M) (hs : ∀ x ∈ k, x.At (Far w B ag gv X) w) : BR (Fresh (B + 5) w) w (k.map bk) v := by
  refine ⟨k, rfl, (RowsOf.of_owns (enc := benc) benc_len hown).imp (fun b hb => ⟨by omega, hb.2⟩), fun x hx => (hs x hx).imp (fun b hb => ⟨by have := hb.2.1; omega, hb.1⟩)⟩
theorem far_bo {w : World} {B M : Nat} {ag gv : Value} {X : List Nat} {k : List Sq} (hown : w.ownsRow M 45 3 ag k.length (k.flatMap benc)) (hM : B + 4 < M) (hs : ∀ x ∈ k, x.At (Far w B ag gv X) w) : BO (B + 5) w (k.map bk) ag :=
  ⟨k, rfl, owns_le hown (by omega), fun x hx => (hs x hx).imp (fun b hb => ⟨by have := hb.2.1; omega, hb.1, hb.2.2.1⟩)⟩
set_option maxRecDepth 100000 in
set_option maxHeartbeats 8000000 in
theorem step_any {p : Nat → Prop} (v : Value) (cl : List Sq) (now retry tries : Int) (W : World) (hq : QR p W cl v) (hp : ∀ b, p b → b < W.heap.size) (hcl : cl.length ≤ 100000) (hsp : ∀ x ∈ cl, x.sp.length ≤ 1000000 ∧ 0 ≤ x.tries ∧ x.tries ≤ 1000000) :
    Calls Try.prog 48 #[v, .int .i64 now, .int .i64 retry, .int .i64 tries] W (Ret (StepR W cl now retry tries)) := by
  obtain ⟨av, cv, rfl⟩ := hq.form
  obtain ⟨n, hn⟩ : ∃ n, n = cl.length := ⟨_, rfl⟩
  rw [← hn] at hcl hq ⊢
  have HQ := hid hq
  have HP := hid hp
  have HSP := hid hsp
  have HN := hid hn
  clear hq hp hsp hn
  go_enter Try.func48, Try.ntmps48
  go_upto_region 1 with fail
  refine wp_genF ?_
  intro w0 hw0
  have hb0 : Below W.heap.size W w0 := by rw [hw0]; go_grown
  have hc0 : Caps w0 W.heap.size now retry tries (.slice none 0 0) (.slice none 0 0) := by
    rw [hw0]
    exact ⟨((((Blk.new _ _ _).alloc _).alloc _).alloc _).alloc _, (((Blk.new' _ _ _ (by simp)).alloc _).alloc _).alloc _, ((Blk.new' _ _ _ (by simp)).alloc _).alloc _, (Blk.new' _ _ _ (by simp)).alloc _, Blk.new' _ _ _ (by simp)⟩
  clear hw0
  have HB0 := hid hb0
  have HC0 := hid hc0
  have hlt := hc0.lt
  have X : Hid (Calls Try.prog 75 #[.slice av n cv, .func (.func 76) #[] #[.pointer (some ⟨W.heap.size, 0, none⟩), .pointer (some ⟨W.heap.size + 2, 0, none⟩), .pointer (some ⟨W.heap.size + 4, 0, none⟩), .pointer (some ⟨W.heap.size + 3, 0, none⟩), .pointer (some ⟨W.heap.size + 1, 0, none⟩)]] w0 (Ret (EachR w0 W.heap.size now retry tries cl))) := hid (by
    obtain ⟨l0, h1, h2, h3⟩ := HQ.out.below hb0 HP.out
    have hp2 : ∀ b, p b → b < w0.heap.size := fun b hb' => Nat.lt_of_lt_of_le (HP.out b hb') hb0.size
    have hl0 : l0.length = n := by rw [HN.out, ← h1, List.length_map]
    have hm : ∀ x ∈ l0, x.core ∈ cl := fun x hx => by rw [← h1]; exact List.mem_map_of_mem hx
    rw [← h1]
    exact each_any (.slice av n cv) l0 W.heap.size now retry tries w0 h2 hp2 (by omega) (fun x hx => (h3 x hx).imp hp2) (fun x hx => (HSP.out x.core (hm x hx)).1) (fun x hx => (HSP.out x.core (hm x hx)).2) hc0)
  clear hb0 hc0 HQ HSP
  go_wp2_with fail
  refine X.out.mono ?_
  rintro e w1 ⟨v1, rfl, kR, kA, kG, va, vg, M, hst, hown, hkR, ho1, q1, q2, q3⟩
  have hb1 : Below W.heap.size W w1 := HB0.out.trans (ho1.below HB0.out.size (fun b hb => by simp at hb; omega))
  obtain ⟨a1, c1, rfl⟩ := Gen.owns_form hown
  obtain ⟨aa, ca, rfl⟩ := Gen.owns_form hst.oa
  obtain ⟨ag, cg, rfl⟩ := Gen.owns_form hst.og
  obtain ⟨n1, hn1⟩ : ∃ n1, n1 = kR.length := ⟨_, rfl⟩
  obtain ⟨na, hna⟩ : ∃ n1, n1 = kA.length := ⟨_, rfl⟩
  obtain ⟨ng, hng⟩ : ∃ n1, n1 = kG.length := ⟨_, rfl⟩
  have hc1 := hst.caps
  have hR : QR (Fresh (W.heap.size + 5) w1) w1 (restS now retry tries cl) (.slice a1 n1 c1) := by
    refine ⟨kR, q1, ?_, fun x hx => (hkR x hx).imp (fun b hb => ⟨by have := hb.2.1; omega, hb.1⟩)⟩
    have hr : RowsOf (fun b => M ≤ b ∧ b < w1.heap.size) Sq.enc 5 w1 (.slice a1 n1 c1) kR := RowsOf.of_owns (enc := Sq.enc) Sq.enc_length (by rw [hn1]; exact hown)
    exact hr.imp (fun b hb => ⟨by have := hst.hM; omega, hb.2⟩)
  have hA : BO (W.heap.size + 5) w1 ((againS now tries cl).map bk) (.slice aa na ca) := by rw [hna, ← q2]; exact far_bo hst.oa hst.hM hst.sa
  have hG : BR (Fresh (W.heap.size + 5) w1) w1 ((givenS now tries cl).map bk) (.slice ag ng cg) := by rw [hng, ← q3]; exact far_br hst.og hst.hM hst.sg
  rw [← hna, ← hng] at hc1
  have HC1 := hid hc1
  rw [← hn1, ← hna, ← hng] at *
  have z3 : w1.cell? ⟨W.heap.size + 3, 0, none⟩ = some (.slice aa na ca) := HC1.out.ag.cell 0
  have z4 : w1.cell? ⟨W.heap.size + 4, 0, none⟩ = some (.slice ag ng cg) := HC1.out.gv.cell 0
  have zf3 := hc1.ag.free 0
  have zf4 := hc1.gv.free 0
  have hl1 := hc1.lt
  have HFIN : Hid (StepR W cl now retry tries (.tuple #[.slice a1 n1 c1, .slice aa na ca, .slice ag ng cg]) ((w1.drew.setCell ⟨W.heap.size + 3, 0, none⟩ (.slice aa na ca)).setCell ⟨W.heap.size + 4, 0, none⟩ (.slice ag ng cg))) := hid (by
    have oo : Only [W.heap.size + 3, W.heap.size + 4] w1 ((w1.drew.setCell ⟨W.heap.size + 3, 0, none⟩ (.slice aa na ca)).setCell ⟨W.heap.size + 4, 0, none⟩ (.slice ag ng cg)) := ((Only.refl _ w1).drew.setCell (by simp) _).setCell (by simp) _
    have hf : ∀ b, Fresh (W.heap.size + 5) w1 b → b < w1.heap.size ∧ b ∉ [W.heap.size + 3, W.heap.size + 4] := fun b hb => ⟨hb.2, by have := hb.1; simp; omega⟩
    have hg : ∀ b, Fresh (W.heap.size + 5) w1 b → Fresh W.heap.size ((w1.drew.setCell ⟨W.heap.size + 3, 0, none⟩ (.slice aa na ca)).setCell ⟨W.heap.size + 4, 0, none⟩ (.slice ag ng cg)) b := fun b hb => ⟨by have := hb.1; omega, Nat.lt_of_lt_of_le hb.2 oo.size⟩
    exact ⟨hb1.trans (oo.below hb1.size (fun b hb => by simp at hb; omega)), _, _, _, rfl, (hR.only oo hf).imp hg, (hA.only oo (fun b hb _ hm => by simp at hm; omega)).le (by omega), (hG.only oo hf).imp hg⟩)
  have KEEP : Hid (∀ w', Caps w' W.heap.size now retry tries (.slice aa na ca) (.slice ag ng cg) → w'.cell? ⟨W.heap.size + 3, 0, none⟩ = some (.slice aa na ca) ∧ w'.cell? ⟨W.heap.size + 4, 0, none⟩ = some (.slice ag ng cg)) := hid (fun w' hc => ⟨hc.ag.cell 0, hc.gv.cell 0⟩)
  clear hc1 hb1 X HB0 HC0 hlt hst hown hkR ho1 q1 q2 q3
  go_wp2_with fail
  refine wp_region_held_drew (S := (fun w' => w'.cell? ⟨W.heap.size + 3, 0, none⟩ = some (.slice aa na ca) ∧ w'.cell? ⟨W.heap.size + 4, 0, none⟩ = some (.slice ag ng cg))) (by kernel_rfl) (by (refine KEEP.out _ ?_; (first | exact HC1.out.drewF | exact HC1.out.drewF.setAg _ | exact (HC1.out.drewF.setAg _).setGv _))) (fun hHeld => ?_)
  refine wpAnyH_take (i := 0) (oi := ⟨_, _, _, _, _, _⟩) (v := ?_) rfl (by kernel_rfl) (by kernel_rfl) (by kernel_rfl) (fun _ _ _ h => h) (Or.inl ⟨by rfl, ?_⟩) hHeld ?_
  rotate_left
  · (intro w hSw; (try dsimp only at hSw); go_simp) <;> with_reducible rfl
  try simp only [Act.put, List.setIfInBounds_toArray, List.set_cons_zero, List.set_cons_succ]
  refine wpAnyH_take (i := 1) (oi := ⟨_, _, _, _, _, _⟩) (v := ?_) rfl (by kernel_rfl) (by kernel_rfl) (by kernel_rfl) (fun _ _ _ h => h) (Or.inl ⟨by rfl, ?_⟩) hHeld ?_
  rotate_left
  · (intro w hSw; (try dsimp only at hSw); go_simp) <;> with_reducible rfl
  try simp only [Act.put, List.setIfInBounds_toArray, List.set_cons_zero, List.set_cons_succ]
  refine wpAnyH_take (i := 2) (oi := ⟨_, _, _, _, _, _⟩) (v := ?_) rfl (by kernel_rfl) (by kernel_rfl) (by kernel_rfl) (fun _ _ _ h => h) (Or.inl ⟨by rfl, ?_⟩) hHeld ?_
  rotate_left
  · (intro w hSw; (try dsimp only at hSw); go_simp) <;> with_reducible rfl
  try simp only [Act.put, List.setIfInBounds_toArray, List.set_cons_zero, List.set_cons_succ]
  refine wpAnyH_take (i := 3) (oi := ⟨_, _, _, _, _, _⟩) (v := ?_) rfl (by kernel_rfl) (by kernel_rfl) (by kernel_rfl) (fun _ _ _ h => h) (Or.inl ⟨by rfl, ?_⟩) hHeld ?_
  rotate_left
  · (intro w hSw; (try dsimp only at hSw); go_simp) <;> with_reducible rfl
  try simp only [Act.put, List.setIfInBounds_toArray, List.set_cons_zero, List.set_cons_succ]
  refine wpAnyH_ready (rs := [4]) (by kernel_rfl) (by simp) ?_
  refine AllReadyH.cons (o := ⟨_, _, _, _, _, _⟩) rfl (fun K hK => ?_) AllReadyH.nil
  clear hHeld
  go_simp
  refine hK.out _ _ (by (refine KEEP.out _ ?_; (first | exact HC1.out.drewF | exact HC1.out.drewF.setAg _ | exact (HC1.out.drewF.setAg _).setGv _))) (fun hHeld => ?_)
  clear hK K
  try simp only [Act.put, List.setIfInBounds_toArray, List.set_cons_zero, List.set_cons_succ]
  refine wpAnyH_ready (rs := [5]) (by kernel_rfl) (by simp) ?_
  refine AllReadyH.cons (o := ⟨_, _, _, _, _, _⟩) rfl (fun K hK => ?_) AllReadyH.nil
  clear hHeld
  go_simp
  refine hK.out _ _ (by (refine KEEP.out _ ?_; (first | exact HC1.out.drewF | exact HC1.out.drewF.setAg _ | exact (HC1.out.drewF.setAg _).setGv _))) (fun hHeld => ?_)
  clear hK K
  try simp only [Act.put, List.setIfInBounds_toArray, List.set_cons_zero, List.set_cons_succ]
  refine wpAnyH_done (by kernel_rfl) ?_ _
  go_wp2_with fail
  refine bodyPost_ret (by simp [results, Try.results48, go_sem, z3, z4, zf3, zf4]; try rfl) rfl ?_
  exact ⟨_, rfl, HFIN.out⟩
end C26
end Go.Proofs.Ytcohcanakicmpaa
namespace Go.Proofs.Ytcohcanakicmpaa
open Go.RowKit Go.Peri
open Gen (flat_set set_mid get_mid map_take_snoc owns_at owns_num owns_le owns_below owns_form)
namespace C26
open Sq (rest ixQ atQ total bk benc)
def AckR (W : World) (cl : List Sq) (q : Int) (v : Value) (w' : World) : Prop := Below W.heap.size W w' ∧ ∃ v1, v = .tuple #[v1, .int .i64 ((total cl : Int) - (total (rest cl q) : Int))] ∧ QR (Fresh W.heap.size w') w' (rest cl q) v1
theorem ackF_fin {W w0 w1 w2 w4 : World} {a1 : Option Addr} {cap1 n : Nat} {l1 : List Sq} {cl : List Sq} {q : Int} (hb0 : Below W.heap.size W w0) (hb1 : Below w0.heap.size w0 w1) (hc1 : l1.map Sq.core = cl) (hcop : Cop w0.heap.size w1 (.slice a1 n cap1) l1) (hown0 : ∀ b, b ∈ blocks (.slice a1 n cap1) → w0.heap.size ≤ b)
    (ho2 : Only (blocks (.slice a1 (rest l1 q).length cap1)) w1 w2) (hown2 : w2.ownsRow w0.heap.size 93 5 (.slice a1 (rest l1 q).length cap1) (rest l1 q).length ((rest l1 q).flatMap Sq.enc)) (hb4 : Below w2.heap.size w2 w4) :
    AckR W cl q (.tuple #[.slice a1 (rest l1 q).length cap1, .int .i64 ((total cl : Int) - (total (rest l1 q) : Int))]) w4 := by
  have hb01 := hb0.trans (hb1.mono hb0.size)
  have s0 := hb0.size
  have hb2 : Below W.heap.size W w2 := hb01.trans (ho2.below hb01.size (fun b hb => Nat.le_trans hb0.size (hown0 b (by rw [blocks_len a1 n (rest l1 q).length cap1]; exact hb))))
  refine ⟨hb2.trans (hb4.mono hb2.size), .slice a1 (rest l1 q).length cap1, ?_, rest l1 q, ?_, ?_, ?_⟩
  · rw [← hc1, ← Sq.rest_core, Sq.total_core (rest l1 q)]
  · rw [← hc1, Sq.rest_core]
  · exact ((RowsOf.of_owns Sq.enc_length hown2).below (B := w2.heap.size) hb4 (fun b h => h.2)).imp (fun b h => ⟨by have := h.1; omega, Nat.lt_of_lt_of_le h.2 hb4.size⟩)
  · intro x hx
    have hxm : x ∈ l1 := (List.mem_filter.1 hx).1
    have hk : OwnK w0.heap.size w2 x := (hcop.own x hxm).keep ho2 (by rw [blocks_len a1 (rest l1 q).length n cap1]; exact hcop.far x hxm)
    have hr : x.At (fun b => w0.heap.size ≤ b ∧ b < w2.heap.size) w2 := RowsOf.of_owns Sp.enc_length hk
    exact (hr.below hb4 (fun _ h => h.2)).imp (fun b h => ⟨by have := h.1; omega, Nat.lt_of_lt_of_le h.2 hb4.size⟩)
set_option maxRecDepth 100000 in
set_option maxHeartbeats 4000000 in
theorem ackF_any {p : Nat → Prop} (a : Option Addr) (cap : Nat) (l : List Sq) (q : Int) (W : World) (h : RowsOf p Sq.enc 5 W (.slice a l.length cap) l) (hp : ∀ b, p b → b < W.heap.size) (hl : l.length ≤ 1000000) (ha : ∀ x ∈ l, x.At p W) (hps : ∀ x ∈ l, x.sp.length ≤ 1000000) :
    Calls Try.prog 32 #[.slice a l.length cap, .int .i64 q] W (Ret (AckR W (l.map Sq.core) q)) := by
  replace h := h.imp hp
  replace ha := fun x hx => (ha x hx).imp hp
  clear hp
  have HH := hid h
  have HA := hid ha
  have HPS := hid hps
  clear h ha hps
  go_enter Try.func32, Try.ntmps32
  go_upto_region 1 with fail
  refine wp_genF ?_
  intro w0 hw0
  have hb0 : Below W.heap.size W w0 := by rw [hw0]; go_grown
  have hk0 : Blk w0 W.heap.size #[.int .i64 q] 3 := by rw [hw0]; exact Blk.new _ _ _
  have hs0 : W.heap.size < w0.heap.size := by rw [hw0]; simp
  clear hw0
  have HB0 := hid hb0
  have HK0 := hid hk0
  have HC := hid (copied_any (p := (· < W.heap.size)) (.slice a l.length cap) l w0 (HH.out.below hb0 (fun _ h => h)) (fun b hb => Nat.lt_of_lt_of_le hb hb0.size) hl (fun x hx => ((HA.out x hx).below hb0 (fun _ h => h)).imp (fun b hb => Nat.lt_of_lt_of_le hb hb0.size)) HPS.out)
  clear hb0 hk0
  go_wp2_with fail
  refine HC.out.mono ?_
  rintro e w1 ⟨v1, rfl, l1, hc1, hb1, hown, hcop⟩
  have hl1 : l1.length = l.length := by
    have := congrArg List.length hc1
    simpa using this
  obtain ⟨a1, cap1, rfl⟩ := Gen.owns_form hown
  have HD := hid (delete_any w0.heap.size a1 cap1 l1 q W.heap.size w1 (by rw [hl1]; exact hown) (by omega) (Nat.lt_of_lt_of_le hs0 hb1.size) hs0 ((HK0.out.later hb1).cell 0))
  rw [hl1] at HD
  have HB1 := hid hb1
  have HC1 := hid hc1
  have HCP := hid hcop
  have HO0 := hid (fun b hb => (owns_bd hown b hb).1)
  have HL1 := hid hl1
  clear hc1 hb1 hown hcop HC hl1
  go_wp2_with fail
  refine HD.out.mono ?_
  rintro e w2 ⟨rfl, ho2, hown2⟩
  have hfin := hid (fun w4 (hb4 : Below w2.heap.size w2 w4) => ackF_fin (q := q) HB0.out HB1.out HC1.out HCP.out HO0.out ho2 hown2.out hb4)
  rw [Sq.total_core] at hfin
  have hb01 := HB0.out.trans (HB1.out.mono HB0.out.size)
  have hb2 : Below W.heap.size W w2 := hb01.trans (ho2.below hb01.size (fun b hb => Nat.le_trans HB0.out.size (HO0.out b (by rw [blocks_len a1 l.length (rest l1 q).length cap1]; exact hb))))
  have hrps : ∀ x ∈ rest l1 q, x.sp.length ≤ 1000000 := fun x hx => Sq.sp_of_core HC1.out (N := 1000000) (fun k hk => by
    obtain ⟨y, hy, rfl⟩ := List.mem_map.1 hk
    exact HPS.out y hy) x ((List.mem_filter.1 hx).1)
  have hrl : (rest l1 q).length ≤ 1000000 := Nat.le_trans (List.length_filter_le _ _) (by rw [HL1.out]; exact hl)
  have X1 := hid (spans_any (p := (· < W.heap.size)) (.slice a l.length cap) l w2 (HH.out.below hb2 (fun _ h => h)) (fun b hb => Nat.lt_of_lt_of_le hb hb2.size) hl HPS.out)
  have X2 := hid (fun w3 (hb3 : Below w2.heap.size w2 w3) => spans_any (p := fun b => w0.heap.size ≤ b ∧ b < w2.heap.size) (.slice a1 (rest l1 q).length cap1) (rest l1 q) w3 ((RowsOf.of_owns Sq.enc_length hown2.out).below hb3 (fun b h => h.2)) (fun b hb => Nat.lt_of_lt_of_le hb.2 hb3.size) hrl hrps)
  have ht1 := Sq.total_le HPS.out
  have ht2 := Sq.total_le hrps
  clear ho2 hown2 hb01 hb2 hrps HD HH HA HPS HC1 HCP HO0 HL1 HB0 HB1 HK0
  generalize total l = T1 at *
  generalize total (rest l1 q) = T2 at *
  generalize (rest l1 q).length = n2 at *
  have hw : IntKind.i64.wrap ((T1 : Int) - (T2 : Int)) = (T1 : Int) - (T2 : Int) := by rw [IntKind.wrap_i64]; omega
  go_wp2_with fail
  refine X1.out.mono ?_
  rintro e w3 ⟨rfl, hb3⟩
  have X3 := hid (X2.out _ hb3)
  have HB3 := hid hb3
  clear hb3 X1 X2
  go_wp2_with fail
  refine X3.out.mono ?_
  rintro e w4 ⟨rfl, hb4⟩
  have HF := hid (hfin.out w4 (HB3.out.trans (hb4.mono HB3.out.size)))
  clear hb4 X3 hfin HB3
  go_wp2_with fail
  go_ret2
  exact ⟨_, rfl, HF.out⟩
theorem ackQ_any {p : Nat → Prop} (v : Value) (cl : List Sq) (q : Int) (W : World) (h : QR p W cl v) (hp : ∀ b, p b → b < W.heap.size) (hl : cl.length ≤ 1000000) (hs : ∀ k ∈ cl, k.sp.length ≤ 1000000) :
    Calls Try.prog 32 #[v, .int .i64 q] W (Ret (AckR W cl q)) := by
  obtain ⟨l1, h1, h2, h3⟩ := h
  obtain ⟨a, cap, rfl⟩ : ∃ a cap, v = .slice a l1.length cap := by
    obtain ⟨a, cap, e, _⟩ := h2
    exact ⟨a, cap, e⟩
  have hl1 : l1.length = cl.length := by rw [← h1, List.length_map]
  have hps := Sq.sp_of_core h1 hs
  rw [← h1]
  exact ackF_any a cap l1 q W h2 hp (by omega) h3 hps
theorem spansQ_any {p : Nat → Prop} (v : Value) (cl : List Sq) (W : World) (h : QR p W cl v) (hp : ∀ b, p b → b < W.heap.size) (hl : cl.length ≤ 1000000) (hs : ∀ k ∈ cl, k.sp.length ≤ 1000000) :
    Calls Try.prog 35 #[v] W fun e w' => e = .returned (.int .i64 (total cl : Nat)) ∧ Below W.heap.size W w' := by
  obtain ⟨l1, h1, h2, h3⟩ := h
  have hl1 : l1.length = cl.length := by rw [← h1, List.length_map]
  have hps := Sq.sp_of_core h1 hs
  rw [← h1, Sq.total_core]
  exact spans_any _ l1 W h2 hp (by omega) hps
end C26
end Go.Proofs.Ytcohcanakicmpaa
namespace Go.Peri
/-- Limits, field by field. -/
structure Lim where
  a0 : Int
  a1 : Int
  a2 : Int
  buf : Int
  batch : Int
  every : Int
  flight : Int
  retry : Int
  tries : Int
  a9 : Int
  a10 : Int
  ida : Option Addr
  idn : Nat
  idc : Nat
structure Lim.Ok (c : Lim) : Prop where
  buf : 1 ≤ c.buf ∧ c.buf ≤ 64
  batch : 1 ≤ c.batch ∧ c.batch ≤ 16
  every : 1 ≤ c.every ∧ c.every ≤ 16
  flight : 1 ≤ c.flight ∧ c.flight ≤ 8
  retry : 1 ≤ c.retry ∧ c.retry ≤ 8
  tries : 1 ≤ c.tries ∧ c.tries ≤ 8
def uptoB (n m : Int) : Bool := decide (1 ≤ n) && decide (n ≤ m)
end Go.Peri
namespace Go.Proofs.Ytcohcanakicmpaa
open Go.RowKit Go.Peri
namespace C27
set_option maxRecDepth 100000 in
theorem upto_any (n m : Int) (W : World) : Calls Try.prog 16 #[.int .i64 n, .int .i64 m] W fun e w' => e = .returned (.bool (uptoB n m)) ∧ W = w' := by
  unfold uptoB
  by_cases h1 : 1 ≤ n
  · have hd : decide (n ≥ 1) = true := decide_eq_true h1
    have hd2 : decide (1 ≤ n) = true := decide_eq_true h1
    rw [hd2, Bool.true_and]
    clear h1 hd2
    go_enter Try.func16, Try.ntmps16
    go_wp2_with fail
    go_ret
    exact ⟨rfl, rfl⟩
  · have hd : decide (n ≥ 1) = false := decide_eq_false h1
    have hd2 : decide (1 ≤ n) = false := decide_eq_false h1
    rw [hd2, Bool.false_and]
    clear h1 hd2
    go_enter Try.func16, Try.ntmps16
    go_wp2_with fail
    go_ret
    exact ⟨rfl, rfl⟩
def okB (c : Lim) : Bool := uptoB c.buf 64 && (uptoB c.batch 16 && (uptoB c.every 16 && (uptoB c.flight 8 && (uptoB c.retry 8 && uptoB c.tries 8))))
def chL (c : Lim) : Int := if okB c = true then 0 else 12
theorem ok_of {c : Lim} (h : chL c = 0) : c.Ok := by
  have h2 : okB c = true := by
    unfold chL at h
    split at h
    · assumption
    · omega
  simp only [okB, uptoB, Bool.and_eq_true, decide_eq_true_eq] at h2
  obtain ⟨a, b, c, d, e, f⟩ := h2
  exact ⟨a, b, c, d, e, f⟩
set_option maxRecDepth 100000 in
set_option maxHeartbeats 4000000 in
theorem rcheck_any (c : Lim) (W : World) : Calls Try.prog 5 #[.agg #[.int .i64 c.a0, .int .i64 c.a1, .int .i64 c.a2, .int .i64 c.buf, .int .i64 c.batch, .int .i64 c.every, .int .i64 c.flight, .int .i64 c.retry, .int .i64 c.tries, .int .i64 c.a9, .int .i64 c.a10, .slice c.ida c.idn c.idc]] W fun e w' => e = .returned (.int .i64 (chL c)) ∧ Below W.heap.size W w' := by
  unfold chL okB
  have U0 : Hid (∀ w, Calls Try.prog 16 #[.int .i64 c.buf, .int .i64 64] w fun e w' => e = .returned (.bool (uptoB c.buf 64)) ∧ w = w') := hid (fun w => upto_any c.buf 64 w)
  generalize uptoB c.buf 64 = b0 at U0 ⊢
  have U1 : Hid (∀ w, Calls Try.prog 16 #[.int .i64 c.batch, .int .i64 16] w fun e w' => e = .returned (.bool (uptoB c.batch 16)) ∧ w = w') := hid (fun w => upto_any c.batch 16 w)
  generalize uptoB c.batch 16 = b1 at U1 ⊢
  have U2 : Hid (∀ w, Calls Try.prog 16 #[.int .i64 c.every, .int .i64 16] w fun e w' => e = .returned (.bool (uptoB c.every 16)) ∧ w = w') := hid (fun w => upto_any c.every 16 w)
  generalize uptoB c.every 16 = b2 at U2 ⊢
  have U3 : Hid (∀ w, Calls Try.prog 16 #[.int .i64 c.flight, .int .i64 8] w fun e w' => e = .returned (.bool (uptoB c.flight 8)) ∧ w = w') := hid (fun w => upto_any c.flight 8 w)
  generalize uptoB c.flight 8 = b3 at U3 ⊢
  have U4 : Hid (∀ w, Calls Try.prog 16 #[.int .i64 c.retry, .int .i64 8] w fun e w' => e = .returned (.bool (uptoB c.retry 8)) ∧ w = w') := hid (fun w => upto_any c.retry 8 w)
  generalize uptoB c.retry 8 = b4 at U4 ⊢
  have U5 : Hid (∀ w, Calls Try.prog 16 #[.int .i64 c.tries, .int .i64 8] w fun e w' => e = .returned (.bool (uptoB c.tries 8)) ∧ w = w') := hid (fun w => upto_any c.tries 8 w)
  generalize uptoB c.tries 8 = b5 at U5 ⊢
  go_enter Try.func5, Try.ntmps5
  cases b0
  · go_wp2_with fail
    refine (U0.out _).mono ?_
    rintro e w0 ⟨rfl, rfl⟩
    go_wp2_with fail
    go_ret
    exact ⟨rfl, Below.alloc (Below.refl _ _) (Nat.le_refl _) _⟩
  · skip
    cases b1
    · go_wp2_with fail
      refine (U0.out _).mono ?_
      rintro e w0 ⟨rfl, rfl⟩
      go_wp2_with fail
      refine (U1.out _).mono ?_
      rintro e w1 ⟨rfl, rfl⟩
      go_wp2_with fail
      go_ret
      exact ⟨rfl, Below.alloc (Below.refl _ _) (Nat.le_refl _) _⟩
    · skip
      cases b2
      · go_wp2_with fail
        refine (U0.out _).mono ?_
        rintro e w0 ⟨rfl, rfl⟩
        go_wp2_with fail
        refine (U1.out _).mono ?_
        rintro e w1 ⟨rfl, rfl⟩
        go_wp2_with fail
        refine (U2.out _).mono ?_
        rintro e w2 ⟨rfl, rfl⟩
        go_wp2_with fail
        go_ret
        exact ⟨rfl, Below.alloc (Below.refl _ _) (Nat.le_refl _) _⟩
      · skip
        cases b3
        · go_wp2_with fail
          refine (U0.out _).mono ?_
          rintro e w0 ⟨rfl, rfl⟩
          go_wp2_with fail
          refine (U1.out _).mono ?_
          rintro e w1 ⟨rfl, rfl⟩
          go_wp2_with fail
          refine (U2.out _).mono ?_
          rintro e w2 ⟨rfl, rfl⟩
          go_wp2_with fail
          refine (U3.out _).mono ?_
          rintro e w3 ⟨rfl, rfl⟩
          go_wp2_with fail
          go_ret
          exact ⟨rfl, Below.alloc (Below.refl _ _) (Nat.le_refl _) _⟩
        · skip
          cases b4
          · go_wp2_with fail
            refine (U0.out _).mono ?_
            rintro e w0 ⟨rfl, rfl⟩
            go_wp2_with fail
            refine (U1.out _).mono ?_
            rintro e w1 ⟨rfl, rfl⟩
            go_wp2_with fail
            refine (U2.out _).mono ?_
            rintro e w2 ⟨rfl, rfl⟩
            go_wp2_with fail
            refine (U3.out _).mono ?_
            rintro e w3 ⟨rfl, rfl⟩
            go_wp2_with fail
            refine (U4.out _).mono ?_
            rintro e w4 ⟨rfl, rfl⟩
            go_wp2_with fail
            go_ret
            exact ⟨rfl, Below.alloc (Below.refl _ _) (Nat.le_refl _) _⟩
          · skip
            cases b5
            · go_wp2_with fail
              refine (U0.out _).mono ?_
              rintro e w0 ⟨rfl, rfl⟩
              go_wp2_with fail
              refine (U1.out _).mono ?_
              rintro e w1 ⟨rfl, rfl⟩
              go_wp2_with fail
              refine (U2.out _).mono ?_
              rintro e w2 ⟨rfl, rfl⟩
              go_wp2_with fail
              refine (U3.out _).mono ?_
              rintro e w3 ⟨rfl, rfl⟩
              go_wp2_with fail
              refine (U4.out _).mono ?_
              rintro e w4 ⟨rfl, rfl⟩
              go_wp2_with fail
              refine (U5.out _).mono ?_
              rintro e w5 ⟨rfl, rfl⟩
              go_wp2_with fail
              go_ret
              exact ⟨rfl, Below.alloc (Below.refl _ _) (Nat.le_refl _) _⟩
            · go_wp2_with fail
              refine (U0.out _).mono ?_
              rintro e w0 ⟨rfl, rfl⟩
              go_wp2_with fail
              refine (U1.out _).mono ?_
              rintro e w1 ⟨rfl, rfl⟩
              go_wp2_with fail
              refine (U2.out _).mono ?_
              rintro e w2 ⟨rfl, rfl⟩
              go_wp2_with fail
              refine (U3.out _).mono ?_
              rintro e w3 ⟨rfl, rfl⟩
              go_wp2_with fail
              refine (U4.out _).mono ?_
              rintro e w4 ⟨rfl, rfl⟩
              go_wp2_with fail
              refine (U5.out _).mono ?_
              rintro e w5 ⟨rfl, rfl⟩
              go_wp2_with fail
              go_ret
              exact ⟨rfl, Below.alloc (Below.refl _ _) (Nat.le_refl _) _⟩
set_option maxRecDepth 100000 in
set_option maxHeartbeats 4000000 in
theorem check_any (c : Lim) (ok : c.Ok) (W : World) : Calls Try.prog 20 #[.agg #[.int .i64 c.a0, .int .i64 c.a1, .int .i64 c.a2, .int .i64 c.buf, .int .i64 c.batch, .int .i64 c.every, .int .i64 c.flight, .int .i64 c.retry, .int .i64 c.tries, .int .i64 c.a9, .int .i64 c.a10, .slice c.ida c.idn c.idc]] W fun e w' => e = .returned (.int .i64 0) ∧ Below W.heap.size W w' := by
  obtain ⟨buf1, buf2⟩ := ok.buf
  obtain ⟨batch1, batch2⟩ := ok.batch
  obtain ⟨every1, every2⟩ := ok.every
  obtain ⟨flight1, flight2⟩ := ok.flight
  obtain ⟨retry1, retry2⟩ := ok.retry
  obtain ⟨tries1, tries2⟩ := ok.tries
  clear ok
  go_enter Try.func20, Try.ntmps20
  go_wp2_with fail
  refine wp_genS ?_
  intro w1 hw1
  have hb1 : Below W.heap.size W w1 := by rw [hw1]; exact Below.alloc (Below.refl _ _) (Nat.le_refl _) _
  have HB1 := hid hb1
  clear hw1 hb1
  go_loopw [24] (fun s24 wr => ∃ k : Int, 0 ≤ k ∧ k ≤ 6 ∧ s24 = .int .i64 k ∧ Hid (Below W.heap.size W wr)) (fun i _ => 6 - (intOf i).toNat)
  case atStart => exact ⟨0, by omega, by omega, rfl, HB1⟩
  case round =>
    obtain ⟨k, hk0, hk, rfl, HB⟩ := hrel
    clear HB1
    rcases (by omega : k = 0 ∨ k = 1 ∨ k = 2 ∨ k = 3 ∨ k = 4 ∨ k = 5 ∨ k = 6) with rfl | rfl | rfl | rfl | rfl | rfl | rfl
    · have ix : ∀ w, (Instr.index 100 (.agg #[.int .i64 c.buf, .int .i64 64, .int .i64 c.batch, .int .i64 16, .int .i64 c.every, .int .i64 16, .int .i64 c.flight, .int .i64 8, .int .i64 c.retry, .int .i64 8, .int .i64 c.tries, .int .i64 8]) (.int .i64 0)).run Try.prog w = .ok (.agg #[.int .i64 c.buf, .int .i64 64]) w := fun _ => by kernel_rfl
      go_wp2_with fail
      go_roundw
      case rel => exact ⟨1, by omega, by omega, by go_num, hid (HB.out.alloc HB.out.size _)⟩
      case measure => simp [intOf]
    · have ix : ∀ w, (Instr.index 100 (.agg #[.int .i64 c.buf, .int .i64 64, .int .i64 c.batch, .int .i64 16, .int .i64 c.every, .int .i64 16, .int .i64 c.flight, .int .i64 8, .int .i64 c.retry, .int .i64 8, .int .i64 c.tries, .int .i64 8]) (.int .i64 1)).run Try.prog w = .ok (.agg #[.int .i64 c.batch, .int .i64 16]) w := fun _ => by kernel_rfl
      go_wp2_with fail
      go_roundw
      case rel => exact ⟨2, by omega, by omega, by go_num, hid (HB.out.alloc HB.out.size _)⟩
      case measure => simp [intOf]
    · have ix : ∀ w, (Instr.index 100 (.agg #[.int .i64 c.buf, .int .i64 64, .int .i64 c.batch, .int .i64 16, .int .i64 c.every, .int .i64 16, .int .i64 c.flight, .int .i64 8, .int .i64 c.retry, .int .i64 8, .int .i64 c.tries, .int .i64 8]) (.int .i64 2)).run Try.prog w = .ok (.agg #[.int .i64 c.every, .int .i64 16]) w := fun _ => by kernel_rfl
      go_wp2_with fail
      go_roundw
      case rel => exact ⟨3, by omega, by omega, by go_num, hid (HB.out.alloc HB.out.size _)⟩
      case measure => simp [intOf]
    · have ix : ∀ w, (Instr.index 100 (.agg #[.int .i64 c.buf, .int .i64 64, .int .i64 c.batch, .int .i64 16, .int .i64 c.every, .int .i64 16, .int .i64 c.flight, .int .i64 8, .int .i64 c.retry, .int .i64 8, .int .i64 c.tries, .int .i64 8]) (.int .i64 3)).run Try.prog w = .ok (.agg #[.int .i64 c.flight, .int .i64 8]) w := fun _ => by kernel_rfl
      go_wp2_with fail
      go_roundw
      case rel => exact ⟨4, by omega, by omega, by go_num, hid (HB.out.alloc HB.out.size _)⟩
      case measure => simp [intOf]
    · have ix : ∀ w, (Instr.index 100 (.agg #[.int .i64 c.buf, .int .i64 64, .int .i64 c.batch, .int .i64 16, .int .i64 c.every, .int .i64 16, .int .i64 c.flight, .int .i64 8, .int .i64 c.retry, .int .i64 8, .int .i64 c.tries, .int .i64 8]) (.int .i64 4)).run Try.prog w = .ok (.agg #[.int .i64 c.retry, .int .i64 8]) w := fun _ => by kernel_rfl
      go_wp2_with fail
      go_roundw
      case rel => exact ⟨5, by omega, by omega, by go_num, hid (HB.out.alloc HB.out.size _)⟩
      case measure => simp [intOf]
    · have ix : ∀ w, (Instr.index 100 (.agg #[.int .i64 c.buf, .int .i64 64, .int .i64 c.batch, .int .i64 16, .int .i64 c.every, .int .i64 16, .int .i64 c.flight, .int .i64 8, .int .i64 c.retry, .int .i64 8, .int .i64 c.tries, .int .i64 8]) (.int .i64 5)).run Try.prog w = .ok (.agg #[.int .i64 c.tries, .int .i64 8]) w := fun _ => by kernel_rfl
      go_wp2_with fail
      go_roundw
      case rel => exact ⟨6, by omega, by omega, by go_num, hid (HB.out.alloc HB.out.size _)⟩
      case measure => simp [intOf]
    · go_wp2_with fail
      go_ret
      exact ⟨rfl, HB.out⟩
set_option maxRecDepth 100000 in
set_option maxHeartbeats 4000000 in
theorem check_zero (W : World) : Calls Try.prog 20 #[.agg #[.int .i64 0, .int .i64 0, .int .i64 0, .int .i64 0, .int .i64 0, .int .i64 0, .int .i64 0, .int .i64 0, .int .i64 0, .int .i64 0, .int .i64 0, .slice none 0 0]] W fun e w' => e = .returned (.int .i64 12) ∧ Below W.heap.size W w' := by
  go_enter Try.func20, Try.ntmps20
  go_wp2_with fail
  refine wp_genS ?_
  intro w1 hw1
  have hb1 : Below W.heap.size W w1 := by rw [hw1]; exact Below.alloc (Below.refl _ _) (Nat.le_refl _) _
  have HB1 := hid hb1
  clear hw1 hb1
  go_loopw [24] (fun s24 wr => s24 = .int .i64 0 ∧ Hid (Below W.heap.size W wr)) (fun _ _ => 0)
  case atStart => exact ⟨rfl, HB1⟩
  case round =>
    obtain ⟨rfl, HB⟩ := hrel
    clear HB1
    have ix : ∀ w, (Instr.index 100 (.agg #[.int .i64 0, .int .i64 64, .int .i64 0, .int .i64 16, .int .i64 0, .int .i64 16, .int .i64 0, .int .i64 8, .int .i64 0, .int .i64 8, .int .i64 0, .int .i64 8]) (.int .i64 0)).run Try.prog w = .ok (.agg #[.int .i64 0, .int .i64 64]) w := fun _ => by kernel_rfl
    go_wp2_with fail
    go_ret
    exact ⟨rfl, HB.out.alloc HB.out.size _⟩
theorem add_any (g k : Nat) (x y z : Int) (w : World) (hz : x + y = z) (hx : 0 ≤ x ∧ x ≤ 1000000 ∧ 0 ≤ y ∧ y ≤ 1000000) (hc : w.cell? ⟨g, k, none⟩ = some (.int .i64 x)) (hf : w.frozen? ⟨g, k, none⟩ = false) :
    Calls Try.prog 33 #[.pointer (some ⟨g, k, none⟩), .int .i64 y] w fun e w' => e = .returned (.int .i64 z) ∧ w.setCell ⟨g, k, none⟩ (.int .i64 z) = w' := by
  have hadd := run_call_add (P := Try.prog) Try.func64 (by kernel_rfl) (by kernel_rfl) (by kernel_rfl) .i64 (by kernel_rfl) (y := y) (s := z) hc hf (by rw [← hz]; simp [go_sem]; rw [IntKind.wrap_i64]; omega)
  clear hx hz
  go_enter Try.func33, Try.ntmps33
  go_wp2
  go_ret
  exact ⟨rfl, rfl⟩
end C27
end Go.Proofs.Ytcohcanakicmpaa
namespace Go.Peri
open Go.RowKit
end Go.Peri
namespace Go.Proofs.Ytcohcanakicmpaa
open Go.RowKit Go.Peri
namespace C25

def zsp : Value := .agg #[.int .u64 0, .int .u64 0, .int .u64 0, .int .u64 0, .string ByteArray.empty, .int .i64 0, .int .i64 0, .int .i64 0, .bool false, .int .i64 0, .int .i64 0]
theorem drop_cells (l : List Sp) (j : Nat) : (l.flatMap Sp.enc).drop (j * 11) = (l.drop j).flatMap Sp.enc := by
  induction l generalizing j with
  | nil => simp
  | cons x l ih =>
    cases j with
    | zero => simp
    | succ j =>
      rw [List.flatMap_cons, show (j + 1) * 11 = x.enc.length + j * 11 by rw [Sp.enc_length]; omega, ← List.drop_drop, List.drop_left, List.drop_succ_cons]
      exact ih j

def DelQ (base hb cap n j : Nat) (l : List Sp) (w : World) (v : Value) (w' : World) : Prop := v = .slice (some ⟨hb, 0, none⟩) (n - j) cap ∧ Only [hb] w w' ∧ w'.ownsRow base 37 11 v (n - j) ((l.drop j).flatMap Sp.enc)

set_option maxRecDepth 100000 in
set_option maxHeartbeats 4000000 in
theorem delete_pos (base hb cap j : Nat) (l : List Sp) (w : World) (h : w.ownsRow base 37 11 (.slice (some ⟨hb, 0, none⟩) l.length cap) l.length (l.flatMap Sp.enc)) (hj : 0 < j) (hjl : j ≤ l.length) (hl : l.length ≤ 1000000) :
    Calls Try.prog 91 #[.slice (some ⟨hb, 0, none⟩) l.length cap, .int .i64 0, .int .i64 j] w (Ret (DelQ base hb cap l.length j l w)) := by
  obtain ⟨d, hd⟩ : ∃ d, l.length = d + j := ⟨l.length - j, by omega⟩
  rw [hd] at h hl ⊢
  obtain ⟨hlen, h2⟩ := h
  obtain ⟨g, cp, cur, e, hbg, hheap, hnc, hcm, hcs, htake⟩ : ∃ g cp cur, Value.slice (some ⟨hb, 0, none⟩) (d + j) cap = .slice (some ⟨g, 0, none⟩) (d + j) cp ∧ base ≤ g ∧ w.heap[g]? = some (.cells cur 37 (0, 0)) ∧ d + j ≤ cp ∧ cp ≤ maxLen ∧ cur.size = cp * 11 ∧ cur.toList.take ((d + j) * 11) = l.flatMap Sp.enc := by
    rcases h2 with ⟨h3, _⟩ | h3
    · cases h3
    · exact h3
  cases e
  have hblk : Blk w hb cur 37 := hheap
  obtain ⟨i0, z0, hi0, hz0, hs0, hb0, hzs0⟩ := C30.elemS.info
  obtain ⟨news, hnews⟩ : ∃ news, news = (l.drop j).flatMap Sp.enc := ⟨_, rfl⟩
  have hnl : news.length = d * 11 := by rw [hnews, flat_length Sp.enc_length, List.length_drop, hd, Nat.add_sub_cancel]
  have hcell : ∀ i, i < cap * 11 → ∃ u, w.cell? ⟨hb, i, none⟩ = some u := fun i hi => by
    rw [hblk.cell]
    exact ⟨cur[i]'(by omega), Array.getElem?_eq_getElem (by omega)⟩
  have hsrc : ∀ q u, news[q]? = some u → w.cell? ⟨hb, j * 11 + q, none⟩ = some u := by
    intro q u hu
    have hq := (List.getElem?_eq_some_iff.1 hu).1
    rw [hnews, ← drop_cells, List.getElem?_drop, ← htake, List.getElem?_take, if_pos (by omega), Array.getElem?_toList] at hu
    rw [hblk.cell]; exact hu
  obtain ⟨W1, hW1⟩ : ∃ W1, W1 = w.drew.setCells hb 0 news := ⟨_, rfl⟩
  obtain ⟨cs1, hb1, hc1⟩ := Blk.setCells (w := w.drew) (cs := cur) (t := 37) news 0 hblk
  rw [← hW1] at hb1
  have hcell1 : ∀ i, i < cap * 11 → (W1.cell? ⟨hb, i, none⟩).isSome = true := fun i hi => by
    rw [hb1.cell, Array.getElem?_eq_getElem (by omega)]; rfl
  have hz : ∃ z : Value, (∀ w, (zeroValue 37).run Try.prog w = .ok z w) ∧ z.cells.size = 11 ∧ ∀ v ∈ z.cells.toList, v.oneCell' = true := by
    refine ⟨zsp, Try.zeroValue37, rfl, ?_⟩
    intro v hv
    simp only [zsp, Value.cells, List.mem_cons, List.not_mem_nil, or_false] at hv
    rcases hv with rfl | rfl | rfl | rfl | rfl | rfl | rfl | rfl | rfl | rfl | rfl <;> rfl
  obtain ⟨z, hzv, hzsz, hzone⟩ := hz
  obtain ⟨zs, hzl, hcl⟩ := run_clear_cells (P := Try.prog) (t := 43) (e := 37) (size := 11) W1 Try.underlying43 z hzv hzsz hzone hb (d * 11) j (cap - d) hj (fun q hq => hcell1 _ (by have := Nat.mul_le_mul_right 11 hnc; rw [Nat.add_mul] at this; omega)) (fun q _ => hb1.free _)
  obtain ⟨cs2, hb2, hc2⟩ := Blk.setCells (w := W1) (cs := cs1) (t := 37) zs (d * 11) hb1
  have fin : DelQ base hb cap (d + j) j l w (.slice (some ⟨hb, 0, none⟩) d cap) (W1.setCells hb (d * 11) zs) := by
    refine ⟨by rw [Nat.add_sub_cancel], ?_, ?_⟩
    · have h1 : Only [hb] w W1 := by rw [hW1]; exact Only.setCells (by simp) _ _ (Only.refl _ _).drew
      exact Only.setCells (by simp) _ _ h1
    · rw [Nat.add_sub_cancel, ← hnews]
      refine owns_of_blk hb2 hbg (by rw [hc2, hc1, hcs]) (by omega) hcm hnl fun i hi => ?_
      rw [← hb2.cell, World.cell?_setCells_out hb zs (d * 11) W1 ⟨hb, i, none⟩ (fun _ _ => .inl (by show i < d * 11; omega)), hW1]
      have hin := World.cell?_setCells_in hb news 0 w.drew (fun q hq => by
        obtain ⟨u, hu⟩ := hcell (0 + q) (by have := Nat.mul_le_mul_right 11 hnc; rw [Nat.add_mul] at this; omega)
        show (w.cell? _).isSome = true
        rw [hu]; rfl) i hi
      rw [Nat.zero_add] at hin
      rw [hin, List.getElem?_eq_getElem hi]
  have HFin := hid fin
  have HNone := hid (Sp.one (l.drop j))
  have HSrc := hid hsrc
  have HSp : Hid (∀ q, q < news.length → (w.drew.cell? ⟨hb, 0 + 0 * 11 + q, none⟩).isSome = true ∧ w.drew.frozen? ⟨hb, 0 + 0 * 11 + q, none⟩ = false) := by
    intro q hq
    obtain ⟨u, hu⟩ := hcell (0 + 0 * 11 + q) (by have := Nat.mul_le_mul_right 11 hnc; rw [Nat.add_mul] at this; omega)
    exact ⟨by show (w.cell? _).isSome = true; rw [hu]; rfl, hblk.free _⟩
  have HN := hid hnews
  have HW1 : Hid (W1 = w.drew.setCells hb (0 + 0 * 11) news) := hW1
  have HNL := hid hnl
  have k1 : (0 : Int) ≤ (j : Int) := by omega
  have k2 : (j : Int) ≤ (d : Int) + (j : Int) := by omega
  have k3 : (d : Int) + (j : Int) ≤ (cap : Int) := by omega
  have k4 : (j : Int) ≤ (cap : Int) := by omega
  have k5 : (0 : Int) ≤ (d : Int) := by omega
  have k6 : (d : Int) ≤ (d : Int) + (j : Int) := by omega
  have k7 : (d : Int) ≤ (cap : Int) := by omega
  have k8 : (0 : Int) ≤ (cap : Int) := by omega
  have q0 : ((0 : Int) == (j : Int)) = false := by rw [beq_eq_false_iff_ne]; omega
  have hcd : ¬ cap = d := by omega
  have hj0 : ¬ j = 0 := by omega
  clear fin hnews hW1 hnl hsrc hcell hcell1 hb1 hb2 hc1 hc2 hzl hzv hzsz hzone htake hheap hblk h2 hlen hcs
  by_cases hcj : cap = j
  · obtain rfl : d = 0 := by omega
    subst hcj
    have HNil : Hid (∀ q u, news[q]? = some u → w.drew.cell? ((⟨hb, 0, none⟩ : Addr).add q) = some u) := by
      intro q u hu
      have := (List.getElem?_eq_some_iff.1 hu).1
      rw [HNL.out] at this
      omega
    have kk1 : (cap : Int) ≤ (cap : Int) := by omega
    simp only [Nat.zero_mul, Nat.sub_zero] at hcl
    go_enter Try.func91, Try.ntmps91
    go_wp2_with fail
    go_region_law (refine step_append_room rfl (.tmp 22) (.tmp 25) 43 rfl 37 i0 11 Try.underlying43 hi0 hs0 hb 0 0 cap (by simp [Act.eval, Act.put]) ⟨hb, 0, none⟩ 0 0 news (by simp [Act.eval, Act.put]) HNL.out HNil.out (by rw [HN.out]; exact HNone.out) (by omega) HSp.out ?_; rw [← HW1.out])
    go_wp2_with fail
    go_ret
    exact ⟨_, rfl, HFin.out⟩
  · go_enter Try.func91, Try.ntmps91
    go_wp2_with fail
    go_region_law (refine step_append_room rfl (.tmp 22) (.tmp 25) 43 rfl 37 i0 11 Try.underlying43 hi0 hs0 hb 0 0 cap (by simp [Act.eval, Act.put]) ⟨hb, j * 11, none⟩ d (cap - j) news (by simp [Act.eval, Act.put]) HNL.out (fun q u hu => by rw [C30.addr_add]; exact HSrc.out q u hu) (by rw [HN.out]; exact HNone.out) (by omega) HSp.out ?_; rw [← HW1.out])
    go_wp2_with fail
    go_ret
    exact ⟨_, rfl, HFin.out⟩
end C25
end Go.Proofs.Ytcohcanakicmpaa
namespace Go.Peri
open Go.RowKit
theorem RowsOf.takeB {α : Type} {p : Nat → Prop} {enc : α → List Value} {k : Nat} {w : World} {a : Option Addr} {n cap : Nat} {l : List α} (h : RowsOf p enc k w (.slice a n cap) l) (m : Nat) (hm : m ≤ n) : RowsOf p enc k w (.slice a m cap) (l.take m) := by
  obtain ⟨a', cap', e, h2, h3, h4, h5⟩ := h
  cases e
  refine ⟨a, cap, ?_, by rw [List.length_take]; omega, h3, h4, ?_⟩
  · rw [List.length_take, Nat.min_eq_left hm]
  · refine h5.imp (fun e => by rw [e]; simp) ?_
    rintro ⟨b, off, g1, g2, g3⟩
    refine ⟨b, off, g1, g2, fun i hi j u hu => ?_⟩
    rw [List.length_take] at hi
    rw [List.getElem_take] at hu
    exact g3 i (by omega) j u hu
end Go.Peri
namespace Go.Proofs.Ytcohcanakicmpaa
open Go.RowKit Go.Peri
namespace C25

theorem owns_later {w w' : World} {base : Nat} {e : TypeId} {size : Nat} {v : Value} {n : Nat} {xs : List Value} (h : w.ownsRow base e size v n xs) (hb : Below w.heap.size w w') : w'.ownsRow base e size v n xs := by
  obtain ⟨h1, h2⟩ := h
  refine ⟨h1, h2.imp id ?_⟩
  rintro ⟨k, cp, cur, q1, q2, q3, q4⟩
  exact ⟨k, cp, cur, q1, q2, (hb.block k (Array.getElem?_eq_some_iff.1 q3).1).trans q3, q4⟩
theorem owns_only {S : List Nat} {w w' : World} {base : Nat} {e : TypeId} {size : Nat} {v : Value} {n : Nat} {xs : List Value} (h : w.ownsRow base e size v n xs) (ho : Only S w w') (hs : ∀ k, k ∈ S → k < base) : w'.ownsRow base e size v n xs := by
  obtain ⟨h1, h2⟩ := h
  refine ⟨h1, h2.imp id ?_⟩
  rintro ⟨k, cp, cur, q1, q2, q3, q4⟩
  exact ⟨k, cp, cur, q1, q2, (ho.block k (Array.getElem?_eq_some_iff.1 q3).1 (fun hm => by have := hs k hm; omega)).trans q3, q4⟩
theorem BufIs.later {w w' : World} {g : Nat} {h : Option Nat} {room : Nat} {l : List Sp} {lost : Int} (hb : BufIs w g h room l lost) (hw : Below w.heap.size w w') : BufIs w' g h room l lost := by
  obtain ⟨v, h1, h2, h3, h4⟩ := hb
  exact ⟨v, h1, h2.later hw, owns_later h3 hw, h4⟩

set_option maxRecDepth 100000 in
theorem delete_zero (a : Option Addr) (n cap : Nat) (w : World) (hn : n ≤ cap) :
    Calls Try.prog 91 #[.slice a n cap, .int .i64 0, .int .i64 0] w fun e w' => e = .returned (.slice a n cap) ∧ w = w' := by
  have k1 : (0 : Int) ≤ (n : Int) := by omega
  have k2 : (n : Int) ≤ (cap : Int) := by omega
  go_enter Try.func91, Try.ntmps91
  go_wp2
  go_ret
  exact ⟨rfl, rfl⟩

def TakeQ (g : Nat) (h : Option Nat) (room : Nat) (l : List Sp) (lost : Int) (j : Nat) (w : World) (e : Ending) (w' : World) : Prop :=
  ∃ a cap, e = .returned (.slice a (l.take j).length cap) ∧ Only (own g h) w w' ∧ BufIs w' g h room (l.drop j) lost ∧ Hid (w'.ownsRow w.heap.size 37 11 (.slice a (l.take j).length cap) (l.take j).length ((l.take j).flatMap Sp.enc))

theorem buf_store {w : World} {g : Nat} {h' : Option Nat} {room : Nat} {v0 v : Value} {lost : Int} {l : List Sp} (hB : Blk w g #[.int .i64 room, v0, .int .i64 lost] 102) (ho : w.ownsRow (g + 1) 37 11 v l.length (l.flatMap Sp.enc)) (hv : v.ownBlock = h') (h1 : l.length ≤ room) (h2 : room ≤ 64) (h3 : 0 ≤ lost) (h4 : lost ≤ 1099511627776) :
    BufIs (w.setCell ⟨g, 1, none⟩ v) g h' room l lost := by
  refine ⟨v, hv, hB.set 1 v, ?_, h1, h2, h3, h4⟩
  obtain ⟨g1, g2⟩ := ho
  refine ⟨g1, g2.imp id ?_⟩
  rintro ⟨k, cp, cur, q1, q2, q3, q4⟩
  exact ⟨k, cp, cur, q1, q2, (Below.heap_setCell _ _ _ _ (by show k ≠ g; omega)).trans q3, q4⟩

set_option maxRecDepth 100000 in
set_option maxHeartbeats 4000000 in
theorem take_zero (g : Nat) (h : Option Nat) (room : Nat) (l : List Sp) (lost : Int) (n : Int) (w : World) (hb : BufIs w g h room l lost) (hn : n ≤ 0 ∨ l.length = 0) :
    Calls Try.prog 80 #[.pointer (some ⟨g, 0, none⟩), .int .i64 n] w (TakeQ g h room l lost 0 w) := by
  obtain ⟨a, cap, e1, h2, h3, h4, h5, h6, h7⟩ := hb.form
  have hgl := h2.lt
  have c1 : w.cell? ⟨g, 1, none⟩ = some (.slice a l.length cap) := h2.cell 1
  have hr := RowsOf.of_owns Sp.enc_length h3
  have hrr := hr
  obtain ⟨a', cap', e9, hlc, hcm, hnn, _⟩ := hrr
  cases e9
  have HT : Hid (RowsOf (fun b => g + 1 ≤ b ∧ b < w.heap.size) Sp.enc 11 w (.slice a 0 cap) (l.take 0)) := hr.takeB 0 (by omega)
  have HG := hid h2
  have HO := hid h3
  have HE := hid e1
  have hlc' : (l.length : Int) ≤ (cap : Int) := by omega
  have k0 : (0 : Int) ≤ (cap : Int) := by omega
  clear hr h2 h3 hb e1 hnn hcm
  have fin : ∀ w1 : World, Below w.heap.size w w1 → ∀ a1 cap1, w1.ownsRow w.heap.size 37 11 (.slice a1 (l.take 0).length cap1) (l.take 0).length ((l.take 0).flatMap Sp.enc) →
      TakeQ g h room l lost 0 w (.returned (.slice a1 (l.take 0).length cap1)) (w1.setCell ⟨g, 1, none⟩ (.slice a l.length cap)) := by
    intro w1 hb1 a1 cap1 hl1
    refine ⟨a1, cap1, rfl, ((Only.of_below hb1).setCell (by simp [own]) _), ?_, ?_⟩
    · rw [List.drop_zero]
      exact buf_store (HG.out.later hb1) (owns_later HO.out hb1) HE.out h4 h5 h6 h7
    · exact owns_only hl1 ((Only.refl [g] w1).setCell (by simp) _) (by simpa using hgl)
  have HFin := hid fin
  clear fin
  have he : max 0 (min n (l.length : Int)) = 0 := by omega
  clear hn
  go_enter Try.func80, Try.ntmps80
  go_wp2_with fail
  refine (C30.sclone_any _ (l.take 0) _ HT.out (fun b h => h.2) (by simp)).mono ?_
  rintro e w1 ⟨a1, cap1, rfl, hb1, HL1⟩
  have c2 := (hb1.cell (p := ⟨g, 1, none⟩) hgl).trans c1
  have hF := hid (HFin.out w1 hb1 a1 cap1 HL1.out)
  have d2 : w1.frozen? ⟨g, 1, none⟩ = false := (HG.out.later hb1).free 1
  clear hb1
  go_wp2_with fail
  refine (delete_zero _ _ _ _ hlc).mono ?_
  rintro e w' ⟨rfl, rfl⟩
  go_wp2_with fail
  go_ret
  exact hF.out

set_option maxRecDepth 100000 in
set_option maxHeartbeats 4000000 in
theorem take_pos (g hb0 : Nat) (room : Nat) (l : List Sp) (lost : Int) (n : Int) (j cap : Nat) (w : World) (h2 : Blk w g #[.int .i64 room, .slice (some ⟨hb0, 0, none⟩) l.length cap, .int .i64 lost] 102) (h3 : w.ownsRow (g + 1) 37 11 (.slice (some ⟨hb0, 0, none⟩) l.length cap) l.length (l.flatMap Sp.enc))
    (h4 : l.length ≤ room) (h5 : room ≤ 64) (h6 : 0 ≤ lost) (h7 : lost ≤ 1099511627776) (hj : 0 < j) (hjl : j ≤ l.length) (hn : n = j ∨ ((l.length : Int) < n ∧ j = l.length)) :
    Calls Try.prog 80 #[.pointer (some ⟨g, 0, none⟩), .int .i64 n] w (TakeQ g (some hb0) room l lost j w) := by
  have hgl := h2.lt
  have c1 : w.cell? ⟨g, 1, none⟩ = some (.slice (some ⟨hb0, 0, none⟩) l.length cap) := h2.cell 1
  have hr := RowsOf.of_owns Sp.enc_length h3
  have hrr := hr
  obtain ⟨a', cap', e9, hlc, hcm, hnn, _⟩ := hrr
  cases e9
  have hlt := h3.lt hb0 rfl
  have HT : Hid (RowsOf (fun b => g + 1 ≤ b ∧ b < w.heap.size) Sp.enc 11 w (.slice (some ⟨hb0, 0, none⟩) j cap) (l.take j)) := hr.takeB j hjl
  have HG := hid h2
  have HO := hid h3
  have k0 : (0 : Int) ≤ (cap : Int) := by omega
  have k1 : (j : Int) ≤ (cap : Int) := by omega
  have k2 : (0 : Int) ≤ (j : Int) := by omega
  have htl : (l.take j).length = j := by rw [List.length_take]; omega
  have HTL := hid htl
  clear hr h2 h3 hnn hcm htl
  have fin : ∀ w1 w2 : World, Below w.heap.size w w1 → ∀ a1 cap1, w1.ownsRow w.heap.size 37 11 (.slice a1 (l.take j).length cap1) (l.take j).length ((l.take j).flatMap Sp.enc) → Only [hb0] w1 w2 → w2.ownsRow (g + 1) 37 11 (.slice (some ⟨hb0, 0, none⟩) (l.length - j) cap) (l.length - j) ((l.drop j).flatMap Sp.enc) →
      TakeQ g (some hb0) room l lost j w (.returned (.slice a1 (l.take j).length cap1)) (w2.setCell ⟨g, 1, none⟩ (.slice (some ⟨hb0, 0, none⟩) (l.length - j) cap)) := by
    intro w1 w2 hb1 a1 cap1 hl1 ho2 hown
    have hg1 : w.heap.size ≤ w1.heap.size := hb1.size
    refine ⟨a1, cap1, rfl, ((Only.of_below hb1).trans (ho2.mono (by simp [own]))).setCell (by simp [own]) _, ?_, ?_⟩
    · refine buf_store ((HG.out.later hb1).only ho2 (by simp; omega)) ?_ rfl (by rw [List.length_drop]; omega) h5 h6 h7
      rw [List.length_drop]
      exact hown
    · exact owns_only (owns_only hl1 ho2 (by simp; omega)) ((Only.refl [g] w2).setCell (by simp) _) (by simpa using hgl)
  have HFin := hid fin
  clear fin
  have he : max 0 (min n (l.length : Int)) = (j : Int) := by omega
  have m4 : (j : Int) ≤ (l.length : Int) := by omega
  clear hn
  go_enter Try.func80, Try.ntmps80
  go_wp2_with fail
  refine (C30.sclone_any _ (l.take j) _ HT.out (fun b h => h.2) (by rw [HTL.out]; omega)).mono ?_
  rintro e w1 ⟨a1, cap1, rfl, hb1, HL1⟩
  have c2 := (hb1.cell (p := ⟨g, 1, none⟩) hgl).trans c1
  have HB1 := hid hb1
  clear hb1
  go_wp2_with fail
  refine (delete_pos (g + 1) hb0 cap j l _ (owns_later HO.out HB1.out) hj hjl (by omega)).mono ?_
  rintro e w2 ⟨v2, rfl, rfl, ho2, hown2⟩
  have c3 := ((HG.out.later HB1.out).only ho2 (by simp; omega)).cell 1
  have d3 := ((HG.out.later HB1.out).only ho2 (by simp; omega)).free 1
  simp only [List.getElem?_toArray, List.getElem?_cons_zero, List.getElem?_cons_succ] at c3
  have hF := hid (HFin.out w1 w2 HB1.out a1 cap1 HL1.out ho2 hown2)
  clear ho2 hown2
  go_wp2_with fail
  go_ret
  have hF2 := hF.out
  rw [HTL.out] at hF2
  exact hF2
end C25
end Go.Proofs.Ytcohcanakicmpaa
