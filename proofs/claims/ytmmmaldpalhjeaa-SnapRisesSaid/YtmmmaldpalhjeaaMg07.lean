/- Walks of layer 14 (table): formats and versions that may be; no condition. Walks of layer 14 (table): whether a config may be; no condition. Walks of layer 12 (rule): whether a rule may be, as the document says; no condition. Walks of layer 14 (table): whether a config may be, as the document says; no condition. Walks of layer 12 (rule): lists of predicates alike; no condition. Walks of layer 12 (rule): lists of predicates cloned; no condition. -/
import Derived.Test.YtmmmaldpalhjeaaMg06
import Derived.Deep.RegionHeld3
import Derived.Laws.StructEq
import Derived.StillTailTactics
import Derived.Laws.LoneSync
import Derived.Deep.RegionLaw
import Derived.Laws.IdiomCopy
import Derived.Lib.MinMax
namespace Go.Proofs.Ytmmmaldpalhjeaa
open Go.RowKit Go.Peri
namespace C14
def okB (b : UInt8) : Bool := !decide (b.toNat < 32) && !decide (126 < b.toNat)
def fmtR (s : ByteArray) : Bool := decide (s.size ≤ 120) && s.data.toList.all okB
def verR (n : Int) : Bool := decide (1 ≤ n) && decide (n ≤ 1099511627776)
theorem take_snoc (s : ByteArray) (k : Nat) (h : k < s.size) : s.data.toList.take (k + 1) = s.data.toList.take k ++ [s[k]] := by
  rw [List.take_succ_eq_append_getElem (by simpa using h)]; rfl
theorem not_all (s : ByteArray) (k : Nat) (h : k < s.size) (hb : okB s[k] = false) : s.data.toList.all okB = false := by
  rw [List.all_eq_false]
  exact ⟨s[k], by show s.data[k] ∈ _; exact Array.mem_toList_iff.2 (Array.getElem_mem _), by rw [hb]; simp⟩
theorem version_any (n : Int) (b : Bool) (w : World) (hb : verR n = b) : Calls Try.prog 133 #[.int .i64 n] w fun e w' => e = .returned (.bool b) ∧ w = w' := by
  subst hb
  unfold verR
  by_cases h1 : 1 ≤ n
  · have hd : decide (1 ≤ n) = true := by simpa using h1
    rw [hd]
    go_enter Try.func133, Try.ntmps133
    go_wp2
    go_ret
    exact ⟨by simp, rfl⟩
  · have hd : decide (1 ≤ n) = false := by simpa using h1
    rw [hd]
    go_enter Try.func133, Try.ntmps133
    go_wp2
    go_ret
    exact ⟨by simp, rfl⟩
set_option maxRecDepth 100000 in
theorem printable_any (s : ByteArray) (b : Bool) (w : World) (hs : s.size ≤ 1000000000000000) (hb : fmtR s = b) : Calls Try.prog 134 #[.string s] w fun e w' => e = .returned (.bool b) ∧ w = w' := by
  have HB := hid hb
  clear hb
  go_enter Try.func134, Try.ntmps134
  go_wp2_with fail
  go_loop [6] (fun i => ∃ k : Nat, k ≤ s.size ∧ i = .int .i64 k ∧ Hid ((s.data.toList.take k).all okB = true)) (fun i => s.size - (intOf i).toNat)
  case atStart => exact ⟨0, Nat.zero_le _, rfl, hid rfl⟩
  case round =>
    obtain ⟨k, hk, rfl, hall⟩ := hrel
    by_cases hk2 : k < s.size
    · have hlt := (s[k]).toNat_lt
      have HT : Hid ((s.data.toList.take (k + 1)).all okB = okB s[k]) := by show _ = _; rw [take_snoc s k hk2, List.all_append, hall.out]; simp
      have HN : Hid (okB s[k] = false → b = false) := hid (fun h => by rw [← HB.out]; unfold fmtR; rw [not_all s k hk2 h, Bool.and_false])
      have HO : Hid (okB s[k] = (!decide ((s[k]).toNat < 32) && !decide (126 < (s[k]).toNat))) := hid rfl
      by_cases h1 : (s[k]).toNat < 32
      · have HF : Hid (b = false) := hid (HN.out (by rw [HO.out]; simp [h1]))
        clear HN HO HT
        go_wp2_with fail
        go_ret
        exact ⟨by rw [HF.out]; rfl, rfl⟩
      by_cases h2 : 126 < (s[k]).toNat
      · have HF : Hid (b = false) := hid (HN.out (by rw [HO.out]; simp [h2]))
        clear HN HO HT
        go_wp2_with fail
        go_ret
        exact ⟨by rw [HF.out]; rfl, rfl⟩
      have HT2 : Hid ((s.data.toList.take (k + 1)).all okB = true) := by show _ = _; rw [HT.out, HO.out]; simp [h1, h2]
      clear HN HO HT
      go_wp2_with fail
      go_round
      case rel => exact ⟨k + 1, by omega, by go_num, HT2⟩
      case measure => simp [intOf]; omega
    · obtain rfl : k = s.size := by omega
      have HR : Hid (b = decide (s.size ≤ 120)) := by
        show _ = _
        have := hall.out
        rw [List.take_of_length_le (by simp)] at this
        rw [← HB.out]; unfold fmtR; rw [this, Bool.and_true]
      have hi : (decide ((s.size : Int) ≤ 120)) = decide (s.size ≤ 120) := by by_cases h : s.size ≤ 120 <;> simp [h] <;> omega
      have HI := hid hi
      clear hi
      go_wp2_with fail
      go_ret
      exact ⟨by rw [HR.out, ← HI.out]; rfl, rfl⟩
set_option maxRecDepth 100000 in
theorem format_any (s : ByteArray) (b : Bool) (w : World) (hs : s.size ≤ 1000000000000000) (hb : fmtR s = b) : Calls Try.prog 135 #[.string s] w fun e w' => e = .returned (.bool b) ∧ w = w' := by
  have HB := hid hb
  clear hb
  by_cases h120 : 120 < s.size
  · have HF : Hid (b = false) := by show _ = _; rw [← HB.out]; unfold fmtR; rw [decide_eq_false (by omega)]; rfl
    go_enter Try.func135, Try.ntmps135
    go_wp2_with fail
    go_ret
    exact ⟨by rw [HF.out]; rfl, rfl⟩
  go_enter Try.func135, Try.ntmps135
  go_wp2_with fail
  go_loop [3] (fun i => ∃ k : Nat, k ≤ s.size ∧ i = .int .i64 k ∧ Hid ((s.data.toList.take k).all okB = true)) (fun i => s.size - (intOf i).toNat)
  case atStart => exact ⟨0, Nat.zero_le _, rfl, hid rfl⟩
  case round =>
    obtain ⟨k, hk, rfl, hall⟩ := hrel
    by_cases hk2 : k < s.size
    · have hlt := (s[k]).toNat_lt
      have HT : Hid ((s.data.toList.take (k + 1)).all okB = okB s[k]) := by show _ = _; rw [take_snoc s k hk2, List.all_append, hall.out]; simp
      have HN : Hid (okB s[k] = false → b = false) := hid (fun h => by rw [← HB.out]; unfold fmtR; rw [not_all s k hk2 h, Bool.and_false])
      have HO : Hid (okB s[k] = (!decide ((s[k]).toNat < 32) && !decide (126 < (s[k]).toNat))) := hid rfl
      by_cases h1 : (s[k]).toNat < 32
      · have HF : Hid (b = false) := hid (HN.out (by rw [HO.out]; simp [h1]))
        clear HN HO HT
        go_wp2_with fail
        go_ret
        exact ⟨by rw [HF.out]; rfl, rfl⟩
      by_cases h2 : 126 < (s[k]).toNat
      · have HF : Hid (b = false) := hid (HN.out (by rw [HO.out]; simp [h2]))
        clear HN HO HT
        go_wp2_with fail
        go_ret
        exact ⟨by rw [HF.out]; rfl, rfl⟩
      have HT2 : Hid ((s.data.toList.take (k + 1)).all okB = true) := by show _ = _; rw [HT.out, HO.out]; simp [h1, h2]
      clear HN HO HT
      go_wp2_with fail
      go_round
      case rel => exact ⟨k + 1, by omega, by go_num, HT2⟩
      case measure => simp [intOf]; omega
    · obtain rfl : k = s.size := by omega
      have HR : Hid (b = true) := by
        show _ = _
        have := hall.out
        rw [List.take_of_length_le (by simp)] at this
        rw [← HB.out]; unfold fmtR; rw [this, decide_eq_true (by omega)]; rfl
      go_wp2_with fail
      go_ret
      exact ⟨by rw [HR.out]; rfl, rfl⟩
end C14
end Go.Proofs.Ytmmmaldpalhjeaa
namespace Go.Proofs.Ytmmmaldpalhjeaa
open Go.RowKit Go.Peri
namespace C14
open C12 (wp_gen)
def ruleR (ns : List ByteArray) (r : Rl) : Int := C12.checkR r.rank r.preds r.target r.ap r.as_ r.dp r.dt r.mp r.mirror r.sample ns
/-- The first rule that may not be, and why. -/
def badR (ns : List ByteArray) : List Rl → Int
  | [] => 0
  | r :: l => if ruleR ns r = 0 then badR ns l else ruleR ns r
def cfgR (f : ByteArray) (l : List Rl) (ns : List ByteArray) : Int := if fmtR f = false then 15 else if 16 < l.length then 8 else badR ns l
theorem badR_drop (ns : List ByteArray) (l : List Rl) (k : Nat) (h : k < l.length) : badR ns (l.drop k) = if ruleR ns l[k] = 0 then badR ns (l.drop (k + 1)) else ruleR ns l[k] := by
  rw [List.drop_eq_getElem_cons h]; rfl
set_option maxRecDepth 100000 in
set_option maxHeartbeats 2000000 in
theorem check_any (l : List Rl) (a : Option Addr) (cap : Nat) (f : ByteArray) (ns : List ByteArray) (vn : Value) (c : Int) (W : World) (hr : RowsOf (· < W.heap.size) Rl.enc 10 W (.slice a l.length cap) l) (hw : ∀ r ∈ l, r.Wf W W.heap.size) (hpl : ∀ r ∈ l, r.preds.length ≤ 1000000000)
    (hn : RowsOf (· < W.heap.size) sEnc 1 W vn ns) (hl : ns.length ≤ 1000000000000) (hf : f.size ≤ 1000000000000000) (hc : cfgR f l ns = c) :
    Calls Try.prog 73 #[.agg #[.slice a l.length cap, .string f], vn] W fun e w' => e = .returned (.int .i64 c) ∧ Below W.heap.size W w' := by
  obtain ⟨q, hq⟩ : ∃ q, fmtR f = q := ⟨_, rfl⟩
  have HF := hid (fun w => printable_any f q w hf hq)
  unfold cfgR at hc
  rw [hq] at hc
  have HC := hid hc
  have HRW := hid hr
  have HCK : Hid (∀ r ∈ l, ∀ (e : Int) (w' : World), Below W.heap.size W w' → ruleR ns r = e → Calls Try.prog 45 #[.agg #[.int .i64 r.rank, .slice r.pa r.preds.length r.pcap, .string r.target, .int .i64 r.ap, .int .i64 r.as_, .int .i64 r.dp, .int .i64 r.dt, .int .i64 r.mp, .string r.mirror, .int .i64 r.sample], vn] w' fun e' w'' => e' = .returned (.int .i64 e) ∧ Below w'.heap.size w' w'') :=
    hid (fun r hr' e w' hb he => C12.check_any r.rank r.pa r.pcap r.preds r.target r.ap r.as_ r.dp r.dt r.mp r.mirror r.sample ns vn e w'
      (((hw r hr').rows.below hb (fun _ h => h)).imp (fun b hb2 => Nat.lt_of_lt_of_le hb2 hb.size)) (hw r hr').preds (hpl r hr') ((hn.below hb (fun _ h => h)).imp (fun b hb2 => Nat.lt_of_lt_of_le hb2 hb.size)) hl he)
  obtain ⟨na, ncap, rfl⟩ := hn.form
  clear hc hr hw hpl hn hq
  go_enter Try.func73, Try.ntmps73
  go_upto_region 1 with fail
  refine wp_gen ?_
  intro w1 hw1
  have hb1 : Below W.heap.size W w1 := by rw [hw1]; go_grown
  have hk1 : Blk w1 W.heap.size #[.slice a l.length cap, .string f] 109 := by rw [hw1]; exact Blk.new _ _ _
  clear hw1
  have HB1 := hid hb1
  have c0 : w1.cell? ⟨W.heap.size, 0, none⟩ = some (.slice a l.length cap) := hk1.cell 0
  have c1 : w1.cell? ⟨W.heap.size, 1, none⟩ = some (.string f) := hk1.cell 1
  clear hb1 hk1
  go_wp2_with fail
  refine (HF.out _).mono ?_
  rintro e w' ⟨rfl, rfl⟩
  cases q
  · go_wp2_with fail
    go_ret
    exact ⟨by rw [← HC.out]; rfl, HB1.out⟩
  by_cases h16 : 16 < l.length
  · go_wp2_with fail
    go_ret
    exact ⟨by rw [← HC.out, if_neg (by simp), if_pos h16]; rfl, HB1.out⟩
  have h0 := HC.out
  rw [if_neg (by simp), if_neg h16] at h0
  have HC2 := hid h0
  clear h0 HC
  go_wp2_with fail
  go_loopw [21] (fun i wr => ∃ k : Nat, k ≤ l.length ∧ i = .int .i64 k ∧ Hid (badR ns (l.drop k) = badR ns l) ∧ Below w1.heap.size w1 wr) (fun i _ => l.length - (intOf i).toNat)
  case atStart => exact ⟨0, Nat.zero_le _, rfl, hid rfl, Below.refl _ _⟩
  case round =>
    obtain ⟨k, hk, rfl, hbd, hb⟩ := hrel
    have HB := hid hb
    clear hb c0 c1
    by_cases hk2 : k < l.length
    · obtain ⟨r, hx⟩ : ∃ r, l[k] = r := ⟨_, rfl⟩
      obtain ⟨e, he⟩ : ∃ e, ruleR ns r = e := ⟨_, rfl⟩
      have HR := hid (fun (w' : World) (hw' : Below W.heap.size W w') => HCK.out r (by rw [← hx]; exact List.getElem_mem hk2) e w' hw' he)
      have HBD : Hid (badR ns l = if e = 0 then badR ns (l.drop (k + 1)) else e) := by show _ = _; rw [← hbd.out, badR_drop ns l k hk2, hx, he]
      have HBW := hid (HB1.out.trans (HB.out.mono HB1.out.size))
      have hrow := HRW.out.below HBW.out (fun _ h => h)
      obtain ⟨b, off, rfl, hcs⟩ : ∃ b off, a = some ⟨b, off, none⟩ ∧ ∀ j u, r.enc[j]? = some u → wr.cell? ⟨b, off + k * 10 + j, none⟩ = some u := by
        obtain ⟨a', cap', e', _, _, _, h5⟩ := hrow
        rcases h5 with h0 | ⟨b, off, h1, _, h3⟩
        · rw [h0] at hk2; simp at hk2
        · cases e'
          exact ⟨b, off, h1, fun j u hu => h3 k hk2 j u (by rw [hx]; exact hu)⟩
      obtain ⟨d0, d1, d2, d3, d4, d5, d6, d7, d8, d9⟩ := Rl.cells hcs
      clear he hrow hcs hbd hx
      by_cases he0 : e = 0
      · subst he0
        have HBD2 : Hid (badR ns (l.drop (k + 1)) = badR ns l) := by show _ = _; rw [HBD.out]; simp
        clear HBD
        go_wp2_with fail
        refine (HR.out _ (HBW.out.alloc HBW.out.size _)).mono ?_
        rintro e' w2 ⟨rfl, hb2⟩
        have HB2 := hid ((HB.out.alloc HB.out.size _).trans (hb2.mono (HB.out.alloc HB.out.size _).size))
        clear hb2
        go_wp2_with fail
        go_roundw
        case rel => exact ⟨k + 1, by omega, by go_num, HBD2, HB2.out⟩
        case measure => simp [intOf]; omega
      · have HCE : Hid (c = e) := by
          show _ = _
          rw [← HC2.out, HBD.out, if_neg he0]
        have he1 : (e == 0) = false := by simpa using he0
        have he2 : (e != 0) = true := by simpa using he0
        clear HBD HC2
        go_wp2_with fail
        refine (HR.out _ (HBW.out.alloc HBW.out.size _)).mono ?_
        rintro e' w2 ⟨rfl, hb2⟩
        have HB2 := hid ((HBW.out.alloc HBW.out.size _).trans (hb2.mono (HBW.out.alloc HBW.out.size _).size))
        clear hb2
        go_wp2_with fail
        go_ret
        exact ⟨by rw [HCE.out]; rfl, HB2.out⟩
    · obtain rfl : k = l.length := by omega
      have HC0 : Hid (c = 0) := by
        have h0 := hbd.out
        rw [List.drop_length] at h0
        show _ = _
        rw [← HC2.out, ← h0]; rfl
      go_wp2_with fail
      go_ret
      exact ⟨by rw [HC0.out]; rfl, HB1.out.trans (HB.out.mono HB1.out.size)⟩
end C14
end Go.Proofs.Ytmmmaldpalhjeaa
namespace Go.Proofs.Ytmmmaldpalhjeaa
open Go.RowKit Go.Peri
namespace C12
theorem sized_alt (n lo hi pct : Int) : sizedB n lo hi pct = (decide (¬ n < lo ∧ ¬ hi < n) || decide (n = 0 ∧ pct = 0)) := by
  unfold sizedB inB
  by_cases h1 : n < lo <;> by_cases h2 : hi < n <;> by_cases h3 : n = 0 <;> by_cases h4 : pct = 0 <;> simp [h1, h2, h3, h4] <;> omega
set_option maxRecDepth 100000 in
set_option maxHeartbeats 2000000 in
theorem rcheck_any (rank : Int) (pa : Option Addr) (pcap : Nat) (ps : List Prd) (target : ByteArray) (ap as_ dp dt mp : Int) (mirror : ByteArray) (sample : Int) (ns : List ByteArray) (vn : Value) (c : Int) (W : World)
    (hp : RowsOf (· < W.heap.size) Prd.enc 3 W (.slice pa ps.length pcap) ps) (hw : ∀ x ∈ ps, x.Wf) (hpl : ps.length ≤ 1000000000) (hn : RowsOf (· < W.heap.size) sEnc 1 W vn ns) (hl : ns.length ≤ 1000000000000) (hc : checkR rank ps target ap as_ dp dt mp mirror sample ns = c) :
    Calls Try.prog 46 #[.agg #[.int .i64 rank, .slice pa ps.length pcap, .string target, .int .i64 ap, .int .i64 as_, .int .i64 dp, .int .i64 dt, .int .i64 mp, .string mirror, .int .i64 sample], vn] W fun e w' => e = .returned (.int .i64 c) ∧ Below W.heap.size W w' := by
  unfold checkR at hc
  have HC := hid hc
  have HPS := hid hp
  have HWF := hid hw
  have HNS := hid hn
  clear hc hp hw hn
  have hrk : inB rank 0 99 = (!decide (rank < 0) && !decide (99 < rank)) := by
    unfold inB
    by_cases h1 : rank < 0 <;> by_cases h2 : 99 < rank <;> simp [h1, h2] <;> omega
  have HRK := hid hrk
  clear hrk
  go_enter Try.func46, Try.ntmps46
  go_upto_region 1 with fail
  refine wp_gen ?_
  intro w1 hw1
  have hb1 : Below W.heap.size W w1 := by rw [hw1]; go_grown
  have hk1 : Blk w1 W.heap.size #[.int .i64 rank, .slice pa ps.length pcap, .string target, .int .i64 ap, .int .i64 as_, .int .i64 dp, .int .i64 dt, .int .i64 mp, .string mirror, .int .i64 sample] 60 := by rw [hw1]; exact Blk.new _ _ _
  clear hw1
  have HB1 := hid hb1
  have HK1 := hid hk1
  have c0 : w1.cell? ⟨W.heap.size, 0, none⟩ = some (.int .i64 rank) := hk1.cell 0
  have c1 : w1.cell? ⟨W.heap.size, 1, none⟩ = some (.slice pa ps.length pcap) := hk1.cell 1
  clear hb1 hk1
  by_cases hr0 : rank < 0
  · have HCR : Hid (c = 12) := by show _ = _; rw [← HC.out, HRK.out]; simp [hr0]
    have hd : decide (rank < 0) = true := by simpa using hr0
    go_wp2_with fail
    go_ret
    exact ⟨by rw [HCR.out]; rfl, HB1.out⟩
  have hd : decide (rank < 0) = false := by simpa using hr0
  by_cases hr9 : 99 < rank
  · have HCR : Hid (c = 12) := by show _ = _; rw [← HC.out, HRK.out]; simp [hr9]
    go_wp2_with fail
    go_ret
    exact ⟨by rw [HCR.out]; rfl, HB1.out⟩
  have hd9 : decide (99 < rank) = false := by simpa using hr9
  by_cases h4 : 4 < ps.length
  · have HCR : Hid (c = 8) := by show _ = _; rw [← HC.out, HRK.out, hd, hd9]; simp [h4]
    go_wp2_with fail
    go_ret
    exact ⟨by rw [HCR.out]; rfl, HB1.out⟩
  have h0 := HC.out
  rw [HRK.out, hd, hd9, if_neg (by simp), if_neg h4] at h0
  obtain ⟨rest, hrest⟩ : ∃ q, (if isIn ns target = false then (7 : Int) else if mirror.size ≠ 0 ∧ isIn ns mirror = false then 7 else if ([ap, dp, mp, sample].all fun n => inB n 0 100) = false then 12 else if sizedB as_ 400 599 ap = false then 12 else if sizedB dt 1 50 dp = false then 12 else if 0 < mp ∧ mirror.size = 0 then 9 else 0) = q := ⟨_, rfl⟩
  rw [hrest] at h0
  have HC2 := hid h0
  have HRS := hid hrest
  clear h0 hrest HC HRK
  go_wp2_with fail
  go_loopw [5] (fun i wr => ∃ k : Nat, k ≤ ps.length ∧ i = .int .i64 k ∧ Hid (bad (ps.drop k) = bad ps) ∧ Below w1.heap.size w1 wr) (fun i _ => ps.length - (intOf i).toNat)
  case atStart => exact ⟨0, Nat.zero_le _, rfl, hid rfl, Below.refl _ _⟩
  case round =>
    obtain ⟨k, hk, rfl, hbd, hb⟩ := hrel
    have HB := hid hb
    clear hb c0 c1
    have hkk := HK1.out.below HB.out HK1.out.lt
    have c1 : wr.cell? ⟨W.heap.size, 1, none⟩ = some (.slice pa ps.length pcap) := hkk.cell 1
    have hlt := hkk.lt
    by_cases hk2 : k < ps.length
    · obtain ⟨kd, nm, vl, hx⟩ : ∃ kd nm vl, ps[k] = ⟨kd, nm, vl⟩ := ⟨_, _, _, rfl⟩
      have hwf := HWF.out ps[k] (List.getElem_mem hk2)
      rw [hx] at hwf
      obtain ⟨e, he⟩ : ∃ e, C11.checkR kd nm vl = e := ⟨_, rfl⟩
      have HPC := hid (fun w => C11.rcheck_any kd nm vl e w (Nat.le_trans hwf.name (by decide)) (Nat.le_trans hwf.value (by decide)) he)
      have HBD : Hid (bad ps = if e = 0 then bad (ps.drop (k + 1)) else e) := by show _ = _; rw [← hbd.out, bad_drop ps k hk2, hx, he]
      have hrow := (HPS.out.below (HB1.out.trans (HB.out.mono HB1.out.size)) (fun _ h => h))
      obtain ⟨b, off, rfl, cc0, cc1, cc2⟩ : ∃ b off, pa = some ⟨b, off, none⟩ ∧ wr.cell? ⟨b, off + k * 3, none⟩ = some (.int .i64 kd) ∧ wr.cell? ⟨b, off + k * 3 + 1, none⟩ = some (.string nm) ∧ wr.cell? ⟨b, off + k * 3 + 2, none⟩ = some (.string vl) := by
        obtain ⟨a', cap', e', _, _, _, h5⟩ := hrow
        rcases h5 with h0 | ⟨b, off, h1, _, h3⟩
        · rw [h0] at hk2; simp at hk2
        · cases e'
          exact ⟨b, off, h1, h3 k hk2 0 _ (by rw [hx]; rfl), h3 k hk2 1 _ (by rw [hx]; rfl), h3 k hk2 2 _ (by rw [hx]; rfl)⟩
      clear he hwf hrow hkk
      by_cases he0 : e = 0
      · subst he0
        have HBD2 : Hid (bad (ps.drop (k + 1)) = bad ps) := by show _ = _; rw [HBD.out]; simp
        clear HBD
        go_wp2_with fail
        refine (HPC.out _).mono ?_
        rintro e' w2 ⟨rfl, hb2⟩
        have HB2 := hid (HB.out.trans (hb2.mono HB.out.size))
        clear hb2
        go_wp2_with fail
        go_roundw
        case rel => exact ⟨k + 1, by omega, by go_num, HBD2, HB2.out⟩
        case measure => simp [intOf]; omega
      · have HCE : Hid (c = e) := by
          have hbe : bad ps = e := by rw [HBD.out, if_neg he0]
          show _ = _
          rw [← HC2.out, hbe, if_pos he0]
        have he1 : (e == 0) = false := by simpa using he0
        have he2 : (e != 0) = true := by simpa using he0
        clear HBD HC2
        go_wp2_with fail
        refine (HPC.out _).mono ?_
        rintro e' w2 ⟨rfl, hb2⟩
        have HB2 := hid (HB.out.trans (hb2.mono HB.out.size))
        clear hb2
        go_wp2_with fail
        go_ret
        exact ⟨by rw [HCE.out]; rfl, HB1.out.trans (HB2.out.mono HB1.out.size)⟩
    · obtain rfl : k = ps.length := by omega
      have hb0 : bad ps = 0 := by have := hbd.out; rw [List.drop_length] at this; exact this.symm
      have hcr := HC2.out
      rw [hb0, if_neg (by simp), ← HRS.out] at hcr
      have hk := hkk
      have c2 : wr.cell? ⟨W.heap.size, 2, none⟩ = some (.string target) := hk.cell 2
      have c3 : wr.cell? ⟨W.heap.size, 3, none⟩ = some (.int .i64 ap) := hk.cell 3
      have c4 : wr.cell? ⟨W.heap.size, 4, none⟩ = some (.int .i64 as_) := hk.cell 4
      have c5 : wr.cell? ⟨W.heap.size, 5, none⟩ = some (.int .i64 dp) := hk.cell 5
      have c6 : wr.cell? ⟨W.heap.size, 6, none⟩ = some (.int .i64 dt) := hk.cell 6
      have c7 : wr.cell? ⟨W.heap.size, 7, none⟩ = some (.int .i64 mp) := hk.cell 7
      have c8 : wr.cell? ⟨W.heap.size, 8, none⟩ = some (.string mirror) := hk.cell 8
      have c9 : wr.cell? ⟨W.heap.size, 9, none⟩ = some (.int .i64 sample) := hk.cell 9
      have HBR := hid (HB1.out.trans (HB.out.mono HB1.out.size))
      have hrn := HNS.out.below HBR.out (fun _ h => h)
      obtain ⟨q1, hq1⟩ : ∃ q, isIn ns target = q := ⟨_, rfl⟩
      obtain ⟨q2, hq2⟩ : ∃ q, isIn ns mirror = q := ⟨_, rfl⟩
      have HI1 := hid (in_any vn ns target q1 wr hrn hl hq1)
      have HI2 := hid (in_any vn ns mirror q2 wr hrn hl hq2)
      obtain ⟨p1, hp1⟩ : ∃ q, inB ap 0 100 = q := ⟨_, rfl⟩
      obtain ⟨p2, hp2⟩ : ∃ q, inB dp 0 100 = q := ⟨_, rfl⟩
      obtain ⟨p3, hp3⟩ : ∃ q, inB mp 0 100 = q := ⟨_, rfl⟩
      obtain ⟨p4, hp4⟩ : ∃ q, inB sample 0 100 = q := ⟨_, rfl⟩
      have HP1 := hid (fun w => part_any ap p1 w hp1)
      have HP2 := hid (fun w => part_any dp p2 w hp2)
      have HP3 := hid (fun w => part_any mp p3 w hp3)
      have HP4 := hid (fun w => part_any sample p4 w hp4)
      obtain ⟨pt, hpt⟩ : ∃ q, (p1 && (p2 && (p3 && p4))) = q := ⟨_, rfl⟩
      have hall : [ap, dp, mp, sample].all (fun n => inB n 0 100) = pt := by rw [← hpt]; simp [hp1, hp2, hp3, hp4]
      rw [hq1, hq2, hall] at hcr
      clear hq1 hq2 hp1 hp2 hp3 hp4 hall hk hkk hb0 hbd HC2 HRS HPS HWF HNS hrn
      -- LAST CASES
      rw [← hpt] at hcr
      clear hpt
      cases q1
      · have HCR : Hid (c = 7) := by show _ = _; rw [← hcr]; rfl
        clear hcr
        go_wp2_with fail
        refine HI1.out.mono ?_
        rintro e' w2 ⟨rfl, rfl⟩
        go_wp2_with fail
        go_ret
        exact ⟨by rw [HCR.out]; rfl, HBR.out⟩
      by_cases hm : mirror.size = 0
      · have HC3 : Hid (c = if (p1 && (p2 && (p3 && p4))) = false then 12 else if sizedB as_ 400 599 ap = false then 12 else if sizedB dt 1 50 dp = false then 12 else if 0 < mp ∧ mirror.size = 0 then 9 else 0) := by show _ = _; rw [← hcr]; simp [hm]
        obtain rfl := C11.none_of mirror hm
        have HME : Hid (ByteArray.empty.size = 0) := hid rfl
        clear hcr hm
        go_wp2_with fail
        refine HI1.out.mono ?_
        rintro e' w2 ⟨rfl, rfl⟩
        go_wp2_with fail
        refine (HP1.out _).mono ?_
        rintro e' w2 ⟨rfl, rfl⟩
        cases p1
        · go_wp2_with fail
          go_ret
          exact ⟨by rw [HC3.out]; rfl, HBR.out⟩
        go_wp2_with fail
        refine (HP2.out _).mono ?_
        rintro e' w2 ⟨rfl, rfl⟩
        cases p2
        · go_wp2_with fail
          go_ret
          exact ⟨by rw [HC3.out]; rfl, HBR.out⟩
        go_wp2_with fail
        refine (HP3.out _).mono ?_
        rintro e' w2 ⟨rfl, rfl⟩
        cases p3
        · go_wp2_with fail
          go_ret
          exact ⟨by rw [HC3.out]; rfl, HBR.out⟩
        go_wp2_with fail
        refine (HP4.out _).mono ?_
        rintro e' w2 ⟨rfl, rfl⟩
        cases p4
        · go_wp2_with fail
          go_ret
          exact ⟨by rw [HC3.out]; rfl, HBR.out⟩
        have HC4 := hid HC3.out
        have HC4 : Hid (c = if sizedB as_ 400 599 ap = false then 12 else if sizedB dt 1 50 dp = false then 12 else if 0 < mp ∧ ByteArray.empty.size = 0 then 9 else 0) := hid HC4.out
        clear HC3
        have keyA : (¬ as_ < 400 ∧ ¬ 599 < as_) ∨ (as_ = 0 ∧ ap = 0) ∨ (as_ < 400 ∧ as_ ≠ 0) ∨ (599 < as_) ∨ (as_ = 0 ∧ ap ≠ 0) := by omega
        have HSZA : Hid (sizedB as_ 400 599 ap = (decide (¬ as_ < 400 ∧ ¬ 599 < as_) || decide (as_ = 0 ∧ ap = 0))) := by show _ = _; exact sized_alt _ _ _ _
        rcases keyA with ⟨x1, x2⟩ | ⟨x1, x2⟩ | ⟨x1, x2⟩ | x1 | ⟨x1, x2⟩
        · have HC4b : Hid (c = _) := hid (HC4.out.trans (by rw [if_neg (by rw [HSZA.out]; simp [x1, x2])]))
          clear HSZA HC4
          have keyB : (¬ dt < 1 ∧ ¬ 50 < dt) ∨ (dt = 0 ∧ dp = 0) ∨ (dt < 1 ∧ dt ≠ 0) ∨ (50 < dt) ∨ (dt = 0 ∧ dp ≠ 0) := by omega
          have HSZB : Hid (sizedB dt 1 50 dp = (decide (¬ dt < 1 ∧ ¬ 50 < dt) || decide (dt = 0 ∧ dp = 0))) := by show _ = _; exact sized_alt _ _ _ _
          rcases keyB with ⟨x1, x2⟩ | ⟨x1, x2⟩ | ⟨x1, x2⟩ | x1 | ⟨x1, x2⟩
          · have HC5 : Hid (c = _) := hid (HC4b.out.trans (by rw [if_neg (by rw [HSZB.out]; simp [x1, x2])]))
            clear HSZB HC4b
            by_cases hmp : 0 < mp
            · have HCZ : Hid (c = 9) := by show _ = _; rw [HC5.out, if_pos ⟨hmp, HME.out⟩]
              go_wp2_with fail
              go_ret
              exact ⟨by rw [HCZ.out]; rfl, HBR.out⟩
            · have HCZ : Hid (c = 0) := by show _ = _; rw [HC5.out, if_neg (fun h => hmp h.1)]
              go_wp2_with fail
              go_ret
              exact ⟨by rw [HCZ.out]; rfl, HBR.out⟩
          · have HC5 : Hid (c = _) := hid (HC4b.out.trans (by rw [if_neg (by rw [HSZB.out]; simp [x1, x2])]))
            clear HSZB HC4b
            subst x1 x2
            by_cases hmp : 0 < mp
            · have HCZ : Hid (c = 9) := by show _ = _; rw [HC5.out, if_pos ⟨hmp, HME.out⟩]
              go_wp2_with fail
              go_ret
              exact ⟨by rw [HCZ.out]; rfl, HBR.out⟩
            · have HCZ : Hid (c = 0) := by show _ = _; rw [HC5.out, if_neg (fun h => hmp h.1)]
              go_wp2_with fail
              go_ret
              exact ⟨by rw [HCZ.out]; rfl, HBR.out⟩
          · have HCZ : Hid (c = 12) := by show _ = _; rw [HC4b.out, if_pos (by rw [HSZB.out]; simp; omega)]
            clear HSZB HC4b
            have y1 : (dt == 0) = false := by simpa using x2
            have y2 : (dt != 0) = true := by simpa using x2
            go_wp2_with fail
            go_ret
            exact ⟨by rw [HCZ.out]; rfl, HBR.out⟩
          · have HCZ : Hid (c = 12) := by show _ = _; rw [HC4b.out, if_pos (by rw [HSZB.out]; simp; omega)]
            clear HSZB HC4b
            have x0 : ¬ dt < 1 := by omega
            have y1 : (dt == 0) = false := by rw [beq_eq_false_iff_ne]; omega
            have y2 : (dt != 0) = true := by rw [bne, y1]; rfl
            go_wp2_with fail
            go_ret
            exact ⟨by rw [HCZ.out]; rfl, HBR.out⟩
          · have HCZ : Hid (c = 12) := by show _ = _; rw [HC4b.out, if_pos (by rw [HSZB.out]; simp; omega)]
            clear HSZB HC4b
            have y1 : (dp == 0) = false := by simpa using x2
            have y2 : (dp != 0) = true := by simpa using x2
            subst x1
            go_wp2_with fail
            go_ret
            exact ⟨by rw [HCZ.out]; rfl, HBR.out⟩
        · have HC4b : Hid (c = _) := hid (HC4.out.trans (by rw [if_neg (by rw [HSZA.out]; simp [x1, x2])]))
          clear HSZA HC4
          subst x1 x2
          have keyB : (¬ dt < 1 ∧ ¬ 50 < dt) ∨ (dt = 0 ∧ dp = 0) ∨ (dt < 1 ∧ dt ≠ 0) ∨ (50 < dt) ∨ (dt = 0 ∧ dp ≠ 0) := by omega
          have HSZB : Hid (sizedB dt 1 50 dp = (decide (¬ dt < 1 ∧ ¬ 50 < dt) || decide (dt = 0 ∧ dp = 0))) := by show _ = _; exact sized_alt _ _ _ _
          rcases keyB with ⟨x1, x2⟩ | ⟨x1, x2⟩ | ⟨x1, x2⟩ | x1 | ⟨x1, x2⟩
          · have HC5 : Hid (c = _) := hid (HC4b.out.trans (by rw [if_neg (by rw [HSZB.out]; simp [x1, x2])]))
            clear HSZB HC4b
            by_cases hmp : 0 < mp
            · have HCZ : Hid (c = 9) := by show _ = _; rw [HC5.out, if_pos ⟨hmp, HME.out⟩]
              go_wp2_with fail
              go_ret
              exact ⟨by rw [HCZ.out]; rfl, HBR.out⟩
            · have HCZ : Hid (c = 0) := by show _ = _; rw [HC5.out, if_neg (fun h => hmp h.1)]
              go_wp2_with fail
              go_ret
              exact ⟨by rw [HCZ.out]; rfl, HBR.out⟩
          · have HC5 : Hid (c = _) := hid (HC4b.out.trans (by rw [if_neg (by rw [HSZB.out]; simp [x1, x2])]))
            clear HSZB HC4b
            subst x1 x2
            by_cases hmp : 0 < mp
            · have HCZ : Hid (c = 9) := by show _ = _; rw [HC5.out, if_pos ⟨hmp, HME.out⟩]
              go_wp2_with fail
              go_ret
              exact ⟨by rw [HCZ.out]; rfl, HBR.out⟩
            · have HCZ : Hid (c = 0) := by show _ = _; rw [HC5.out, if_neg (fun h => hmp h.1)]
              go_wp2_with fail
              go_ret
              exact ⟨by rw [HCZ.out]; rfl, HBR.out⟩
          · have HCZ : Hid (c = 12) := by show _ = _; rw [HC4b.out, if_pos (by rw [HSZB.out]; simp; omega)]
            clear HSZB HC4b
            have y1 : (dt == 0) = false := by simpa using x2
            have y2 : (dt != 0) = true := by simpa using x2
            go_wp2_with fail
            go_ret
            exact ⟨by rw [HCZ.out]; rfl, HBR.out⟩
          · have HCZ : Hid (c = 12) := by show _ = _; rw [HC4b.out, if_pos (by rw [HSZB.out]; simp; omega)]
            clear HSZB HC4b
            have x0 : ¬ dt < 1 := by omega
            have y1 : (dt == 0) = false := by rw [beq_eq_false_iff_ne]; omega
            have y2 : (dt != 0) = true := by rw [bne, y1]; rfl
            go_wp2_with fail
            go_ret
            exact ⟨by rw [HCZ.out]; rfl, HBR.out⟩
          · have HCZ : Hid (c = 12) := by show _ = _; rw [HC4b.out, if_pos (by rw [HSZB.out]; simp; omega)]
            clear HSZB HC4b
            have y1 : (dp == 0) = false := by simpa using x2
            have y2 : (dp != 0) = true := by simpa using x2
            subst x1
            go_wp2_with fail
            go_ret
            exact ⟨by rw [HCZ.out]; rfl, HBR.out⟩
        · have HCZ : Hid (c = 12) := by show _ = _; rw [HC4.out, if_pos (by rw [HSZA.out]; simp; omega)]
          clear HSZA HC4
          have y1 : (as_ == 0) = false := by simpa using x2
          have y2 : (as_ != 0) = true := by simpa using x2
          go_wp2_with fail
          go_ret
          exact ⟨by rw [HCZ.out]; rfl, HBR.out⟩
        · have HCZ : Hid (c = 12) := by show _ = _; rw [HC4.out, if_pos (by rw [HSZA.out]; simp; omega)]
          clear HSZA HC4
          have x0 : ¬ as_ < 400 := by omega
          have y1 : (as_ == 0) = false := by rw [beq_eq_false_iff_ne]; omega
          have y2 : (as_ != 0) = true := by rw [bne, y1]; rfl
          go_wp2_with fail
          go_ret
          exact ⟨by rw [HCZ.out]; rfl, HBR.out⟩
        · have HCZ : Hid (c = 12) := by show _ = _; rw [HC4.out, if_pos (by rw [HSZA.out]; simp; omega)]
          clear HSZA HC4
          have y1 : (ap == 0) = false := by simpa using x2
          have y2 : (ap != 0) = true := by simpa using x2
          subst x1
          go_wp2_with fail
          go_ret
          exact ⟨by rw [HCZ.out]; rfl, HBR.out⟩
      · have HME : Hid (mirror.size ≠ 0) := hid hm
        obtain ⟨f1, f2, f3⟩ := C11.full_of mirror hm
        cases q2
        · have HCR : Hid (c = 7) := by show _ = _; rw [← hcr]; simp [hm]
          clear hcr hm
          go_wp2_with fail
          refine HI1.out.mono ?_
          rintro e' w2 ⟨rfl, rfl⟩
          go_wp2_with fail
          refine HI2.out.mono ?_
          rintro e' w2 ⟨rfl, rfl⟩
          go_wp2_with fail
          go_ret
          exact ⟨by rw [HCR.out]; rfl, HBR.out⟩
        · have HC3 : Hid (c = if (p1 && (p2 && (p3 && p4))) = false then 12 else if sizedB as_ 400 599 ap = false then 12 else if sizedB dt 1 50 dp = false then 12 else if 0 < mp ∧ mirror.size = 0 then 9 else 0) := by show _ = _; rw [← hcr]; simp
          clear hcr hm
          go_wp2_with fail
          refine HI1.out.mono ?_
          rintro e' w2 ⟨rfl, rfl⟩
          go_wp2_with fail
          refine HI2.out.mono ?_
          rintro e' w2 ⟨rfl, rfl⟩
          go_wp2_with fail
          refine (HP1.out _).mono ?_
          rintro e' w2 ⟨rfl, rfl⟩
          cases p1
          · go_wp2_with fail
            go_ret
            exact ⟨by rw [HC3.out]; rfl, HBR.out⟩
          go_wp2_with fail
          refine (HP2.out _).mono ?_
          rintro e' w2 ⟨rfl, rfl⟩
          cases p2
          · go_wp2_with fail
            go_ret
            exact ⟨by rw [HC3.out]; rfl, HBR.out⟩
          go_wp2_with fail
          refine (HP3.out _).mono ?_
          rintro e' w2 ⟨rfl, rfl⟩
          cases p3
          · go_wp2_with fail
            go_ret
            exact ⟨by rw [HC3.out]; rfl, HBR.out⟩
          go_wp2_with fail
          refine (HP4.out _).mono ?_
          rintro e' w2 ⟨rfl, rfl⟩
          cases p4
          · go_wp2_with fail
            go_ret
            exact ⟨by rw [HC3.out]; rfl, HBR.out⟩
          have HC4 := hid HC3.out
          have HC4 : Hid (c = if sizedB as_ 400 599 ap = false then 12 else if sizedB dt 1 50 dp = false then 12 else if 0 < mp ∧ mirror.size = 0 then 9 else 0) := hid HC4.out
          clear HC3
          have keyA : (¬ as_ < 400 ∧ ¬ 599 < as_) ∨ (as_ = 0 ∧ ap = 0) ∨ (as_ < 400 ∧ as_ ≠ 0) ∨ (599 < as_) ∨ (as_ = 0 ∧ ap ≠ 0) := by omega
          have HSZA : Hid (sizedB as_ 400 599 ap = (decide (¬ as_ < 400 ∧ ¬ 599 < as_) || decide (as_ = 0 ∧ ap = 0))) := by show _ = _; exact sized_alt _ _ _ _
          rcases keyA with ⟨x1, x2⟩ | ⟨x1, x2⟩ | ⟨x1, x2⟩ | x1 | ⟨x1, x2⟩
          · have HC4b : Hid (c = _) := hid (HC4.out.trans (by rw [if_neg (by rw [HSZA.out]; simp [x1, x2])]))
            clear HSZA HC4
            have keyB : (¬ dt < 1 ∧ ¬ 50 < dt) ∨ (dt = 0 ∧ dp = 0) ∨ (dt < 1 ∧ dt ≠ 0) ∨ (50 < dt) ∨ (dt = 0 ∧ dp ≠ 0) := by omega
            have HSZB : Hid (sizedB dt 1 50 dp = (decide (¬ dt < 1 ∧ ¬ 50 < dt) || decide (dt = 0 ∧ dp = 0))) := by show _ = _; exact sized_alt _ _ _ _
            rcases keyB with ⟨x1, x2⟩ | ⟨x1, x2⟩ | ⟨x1, x2⟩ | x1 | ⟨x1, x2⟩
            · have HC5 : Hid (c = _) := hid (HC4b.out.trans (by rw [if_neg (by rw [HSZB.out]; simp [x1, x2])]))
              clear HSZB HC4b
              have HCZ : Hid (c = 0) := by show _ = _; rw [HC5.out, if_neg (fun h => HME.out h.2)]
              clear HC5
              by_cases hmp : 0 < mp
              · go_wp2_with fail
                go_ret
                exact ⟨by rw [HCZ.out]; rfl, HBR.out⟩
              · go_wp2_with fail
                go_ret
                exact ⟨by rw [HCZ.out]; rfl, HBR.out⟩
            · have HC5 : Hid (c = _) := hid (HC4b.out.trans (by rw [if_neg (by rw [HSZB.out]; simp [x1, x2])]))
              clear HSZB HC4b
              subst x1 x2
              have HCZ : Hid (c = 0) := by show _ = _; rw [HC5.out, if_neg (fun h => HME.out h.2)]
              clear HC5
              by_cases hmp : 0 < mp
              · go_wp2_with fail
                go_ret
                exact ⟨by rw [HCZ.out]; rfl, HBR.out⟩
              · go_wp2_with fail
                go_ret
                exact ⟨by rw [HCZ.out]; rfl, HBR.out⟩
            · have HCZ : Hid (c = 12) := by show _ = _; rw [HC4b.out, if_pos (by rw [HSZB.out]; simp; omega)]
              clear HSZB HC4b
              have y1 : (dt == 0) = false := by simpa using x2
              have y2 : (dt != 0) = true := by simpa using x2
              go_wp2_with fail
              go_ret
              exact ⟨by rw [HCZ.out]; rfl, HBR.out⟩
            · have HCZ : Hid (c = 12) := by show _ = _; rw [HC4b.out, if_pos (by rw [HSZB.out]; simp; omega)]
              clear HSZB HC4b
              have x0 : ¬ dt < 1 := by omega
              have y1 : (dt == 0) = false := by rw [beq_eq_false_iff_ne]; omega
              have y2 : (dt != 0) = true := by rw [bne, y1]; rfl
              go_wp2_with fail
              go_ret
              exact ⟨by rw [HCZ.out]; rfl, HBR.out⟩
            · have HCZ : Hid (c = 12) := by show _ = _; rw [HC4b.out, if_pos (by rw [HSZB.out]; simp; omega)]
              clear HSZB HC4b
              have y1 : (dp == 0) = false := by simpa using x2
              have y2 : (dp != 0) = true := by simpa using x2
              subst x1
              go_wp2_with fail
              go_ret
              exact ⟨by rw [HCZ.out]; rfl, HBR.out⟩
          · have HC4b : Hid (c = _) := hid (HC4.out.trans (by rw [if_neg (by rw [HSZA.out]; simp [x1, x2])]))
            clear HSZA HC4
            subst x1 x2
            have keyB : (¬ dt < 1 ∧ ¬ 50 < dt) ∨ (dt = 0 ∧ dp = 0) ∨ (dt < 1 ∧ dt ≠ 0) ∨ (50 < dt) ∨ (dt = 0 ∧ dp ≠ 0) := by omega
            have HSZB : Hid (sizedB dt 1 50 dp = (decide (¬ dt < 1 ∧ ¬ 50 < dt) || decide (dt = 0 ∧ dp = 0))) := by show _ = _; exact sized_alt _ _ _ _
            rcases keyB with ⟨x1, x2⟩ | ⟨x1, x2⟩ | ⟨x1, x2⟩ | x1 | ⟨x1, x2⟩
            · have HC5 : Hid (c = _) := hid (HC4b.out.trans (by rw [if_neg (by rw [HSZB.out]; simp [x1, x2])]))
              clear HSZB HC4b
              have HCZ : Hid (c = 0) := by show _ = _; rw [HC5.out, if_neg (fun h => HME.out h.2)]
              clear HC5
              by_cases hmp : 0 < mp
              · go_wp2_with fail
                go_ret
                exact ⟨by rw [HCZ.out]; rfl, HBR.out⟩
              · go_wp2_with fail
                go_ret
                exact ⟨by rw [HCZ.out]; rfl, HBR.out⟩
            · have HC5 : Hid (c = _) := hid (HC4b.out.trans (by rw [if_neg (by rw [HSZB.out]; simp [x1, x2])]))
              clear HSZB HC4b
              subst x1 x2
              have HCZ : Hid (c = 0) := by show _ = _; rw [HC5.out, if_neg (fun h => HME.out h.2)]
              clear HC5
              by_cases hmp : 0 < mp
              · go_wp2_with fail
                go_ret
                exact ⟨by rw [HCZ.out]; rfl, HBR.out⟩
              · go_wp2_with fail
                go_ret
                exact ⟨by rw [HCZ.out]; rfl, HBR.out⟩
            · have HCZ : Hid (c = 12) := by show _ = _; rw [HC4b.out, if_pos (by rw [HSZB.out]; simp; omega)]
              clear HSZB HC4b
              have y1 : (dt == 0) = false := by simpa using x2
              have y2 : (dt != 0) = true := by simpa using x2
              go_wp2_with fail
              go_ret
              exact ⟨by rw [HCZ.out]; rfl, HBR.out⟩
            · have HCZ : Hid (c = 12) := by show _ = _; rw [HC4b.out, if_pos (by rw [HSZB.out]; simp; omega)]
              clear HSZB HC4b
              have x0 : ¬ dt < 1 := by omega
              have y1 : (dt == 0) = false := by rw [beq_eq_false_iff_ne]; omega
              have y2 : (dt != 0) = true := by rw [bne, y1]; rfl
              go_wp2_with fail
              go_ret
              exact ⟨by rw [HCZ.out]; rfl, HBR.out⟩
            · have HCZ : Hid (c = 12) := by show _ = _; rw [HC4b.out, if_pos (by rw [HSZB.out]; simp; omega)]
              clear HSZB HC4b
              have y1 : (dp == 0) = false := by simpa using x2
              have y2 : (dp != 0) = true := by simpa using x2
              subst x1
              go_wp2_with fail
              go_ret
              exact ⟨by rw [HCZ.out]; rfl, HBR.out⟩
          · have HCZ : Hid (c = 12) := by show _ = _; rw [HC4.out, if_pos (by rw [HSZA.out]; simp; omega)]
            clear HSZA HC4
            have y1 : (as_ == 0) = false := by simpa using x2
            have y2 : (as_ != 0) = true := by simpa using x2
            go_wp2_with fail
            go_ret
            exact ⟨by rw [HCZ.out]; rfl, HBR.out⟩
          · have HCZ : Hid (c = 12) := by show _ = _; rw [HC4.out, if_pos (by rw [HSZA.out]; simp; omega)]
            clear HSZA HC4
            have x0 : ¬ as_ < 400 := by omega
            have y1 : (as_ == 0) = false := by rw [beq_eq_false_iff_ne]; omega
            have y2 : (as_ != 0) = true := by rw [bne, y1]; rfl
            go_wp2_with fail
            go_ret
            exact ⟨by rw [HCZ.out]; rfl, HBR.out⟩
          · have HCZ : Hid (c = 12) := by show _ = _; rw [HC4.out, if_pos (by rw [HSZA.out]; simp; omega)]
            clear HSZA HC4
            have y1 : (ap == 0) = false := by simpa using x2
            have y2 : (ap != 0) = true := by simpa using x2
            subst x1
            go_wp2_with fail
            go_ret
            exact ⟨by rw [HCZ.out]; rfl, HBR.out⟩
end C12
end Go.Proofs.Ytmmmaldpalhjeaa
namespace Go.Proofs.Ytmmmaldpalhjeaa
open Go.RowKit Go.Peri
namespace C14
open C12 (wp_gen)
set_option maxRecDepth 100000 in
set_option maxHeartbeats 2000000 in
theorem rcheck_any (l : List Rl) (a : Option Addr) (cap : Nat) (f : ByteArray) (ns : List ByteArray) (vn : Value) (c : Int) (W : World) (hr : RowsOf (· < W.heap.size) Rl.enc 10 W (.slice a l.length cap) l) (hw : ∀ r ∈ l, r.Wf W W.heap.size) (hpl : ∀ r ∈ l, r.preds.length ≤ 1000000000)
    (hn : RowsOf (· < W.heap.size) sEnc 1 W vn ns) (hl : ns.length ≤ 1000000000000) (hf : f.size ≤ 1000000000000000) (hc : cfgR f l ns = c) :
    Calls Try.prog 74 #[.agg #[.slice a l.length cap, .string f], vn] W fun e w' => e = .returned (.int .i64 c) ∧ Below W.heap.size W w' := by
  obtain ⟨q, hq⟩ : ∃ q, fmtR f = q := ⟨_, rfl⟩
  have HF := hid (fun w => format_any f q w hf hq)
  unfold cfgR at hc
  rw [hq] at hc
  have HC := hid hc
  have HRW := hid hr
  have HCK : Hid (∀ r ∈ l, ∀ (e : Int) (w' : World), Below W.heap.size W w' → ruleR ns r = e → Calls Try.prog 46 #[.agg #[.int .i64 r.rank, .slice r.pa r.preds.length r.pcap, .string r.target, .int .i64 r.ap, .int .i64 r.as_, .int .i64 r.dp, .int .i64 r.dt, .int .i64 r.mp, .string r.mirror, .int .i64 r.sample], vn] w' fun e' w'' => e' = .returned (.int .i64 e) ∧ Below w'.heap.size w' w'') :=
    hid (fun r hr' e w' hb he => C12.rcheck_any r.rank r.pa r.pcap r.preds r.target r.ap r.as_ r.dp r.dt r.mp r.mirror r.sample ns vn e w'
      (((hw r hr').rows.below hb (fun _ h => h)).imp (fun b hb2 => Nat.lt_of_lt_of_le hb2 hb.size)) (hw r hr').preds (hpl r hr') ((hn.below hb (fun _ h => h)).imp (fun b hb2 => Nat.lt_of_lt_of_le hb2 hb.size)) hl he)
  obtain ⟨na, ncap, rfl⟩ := hn.form
  clear hc hr hw hpl hn hq
  go_enter Try.func74, Try.ntmps74
  go_upto_region 1 with fail
  refine wp_gen ?_
  intro w1 hw1
  have hb1 : Below W.heap.size W w1 := by rw [hw1]; go_grown
  have hk1 : Blk w1 W.heap.size #[.slice a l.length cap, .string f] 109 := by rw [hw1]; exact Blk.new _ _ _
  clear hw1
  have HB1 := hid hb1
  have c0 : w1.cell? ⟨W.heap.size, 0, none⟩ = some (.slice a l.length cap) := hk1.cell 0
  have c1 : w1.cell? ⟨W.heap.size, 1, none⟩ = some (.string f) := hk1.cell 1
  have HK1 := hid hk1
  clear hb1 hk1
  go_wp2_with fail
  refine (HF.out _).mono ?_
  rintro e w' ⟨rfl, rfl⟩
  cases q
  · go_wp2_with fail
    go_ret
    exact ⟨by rw [← HC.out]; rfl, HB1.out⟩
  by_cases h16 : 16 < l.length
  · go_wp2_with fail
    go_ret
    exact ⟨by rw [← HC.out, if_neg (by simp), if_pos h16]; rfl, HB1.out⟩
  have h0 := HC.out
  rw [if_neg (by simp), if_neg h16] at h0
  have HC2 := hid h0
  clear h0 HC
  go_wp2_with fail
  go_loopw [5] (fun i wr => ∃ k : Nat, k ≤ l.length ∧ i = .int .i64 k ∧ Hid (badR ns (l.drop k) = badR ns l) ∧ Below w1.heap.size w1 wr) (fun i _ => l.length - (intOf i).toNat)
  case atStart => exact ⟨0, Nat.zero_le _, rfl, hid rfl, Below.refl _ _⟩
  case round =>
    obtain ⟨k, hk, rfl, hbd, hb⟩ := hrel
    have HB := hid hb
    clear hb c0 c1
    have hkk := HK1.out.below HB.out HK1.out.lt
    have c0 : wr.cell? ⟨W.heap.size, 0, none⟩ = some (.slice a l.length cap) := hkk.cell 0
    have hltk := hkk.lt
    clear hkk
    by_cases hk2 : k < l.length
    · obtain ⟨r, hx⟩ : ∃ r, l[k] = r := ⟨_, rfl⟩
      obtain ⟨e, he⟩ : ∃ e, ruleR ns r = e := ⟨_, rfl⟩
      have HR := hid (fun (w' : World) (hw' : Below W.heap.size W w') => HCK.out r (by rw [← hx]; exact List.getElem_mem hk2) e w' hw' he)
      have HBD : Hid (badR ns l = if e = 0 then badR ns (l.drop (k + 1)) else e) := by show _ = _; rw [← hbd.out, badR_drop ns l k hk2, hx, he]
      have HBW := hid (HB1.out.trans (HB.out.mono HB1.out.size))
      have hrow := HRW.out.below HBW.out (fun _ h => h)
      obtain ⟨b, off, rfl, hcs⟩ : ∃ b off, a = some ⟨b, off, none⟩ ∧ ∀ j u, r.enc[j]? = some u → wr.cell? ⟨b, off + k * 10 + j, none⟩ = some u := by
        obtain ⟨a', cap', e', _, _, _, h5⟩ := hrow
        rcases h5 with h0 | ⟨b, off, h1, _, h3⟩
        · rw [h0] at hk2; simp at hk2
        · cases e'
          exact ⟨b, off, h1, fun j u hu => h3 k hk2 j u (by rw [hx]; exact hu)⟩
      obtain ⟨d0, d1, d2, d3, d4, d5, d6, d7, d8, d9⟩ := Rl.cells hcs
      clear he hrow hcs hbd hx
      by_cases he0 : e = 0
      · subst he0
        have HBD2 : Hid (badR ns (l.drop (k + 1)) = badR ns l) := by show _ = _; rw [HBD.out]; simp
        clear HBD
        go_wp2_with fail
        refine (HR.out _ HBW.out).mono ?_
        rintro e' w2 ⟨rfl, hb2⟩
        have HB2 := hid (HB.out.trans (hb2.mono HB.out.size))
        clear hb2
        go_wp2_with fail
        go_roundw
        case rel => exact ⟨k + 1, by omega, by go_num, HBD2, HB2.out⟩
        case measure => simp [intOf]; omega
      · have HCE : Hid (c = e) := by
          show _ = _
          rw [← HC2.out, HBD.out, if_neg he0]
        have he1 : (e == 0) = false := by simpa using he0
        have he2 : (e != 0) = true := by simpa using he0
        clear HBD HC2
        go_wp2_with fail
        refine (HR.out _ HBW.out).mono ?_
        rintro e' w2 ⟨rfl, hb2⟩
        have HB2 := hid (HBW.out.trans (hb2.mono HBW.out.size))
        clear hb2
        go_wp2_with fail
        go_ret
        exact ⟨by rw [HCE.out]; rfl, HB2.out⟩
    · obtain rfl : k = l.length := by omega
      have HC0 : Hid (c = 0) := by
        have h0 := hbd.out
        rw [List.drop_length] at h0
        show _ = _
        rw [← HC2.out, ← h0]; rfl
      go_wp2_with fail
      go_ret
      exact ⟨by rw [HC0.out]; rfl, HB1.out.trans (HB.out.mono HB1.out.size)⟩
end C14
end Go.Proofs.Ytmmmaldpalhjeaa
namespace Go.Peri
deriving instance DecidableEq for Prd
end Go.Peri
namespace Go.Proofs.Ytmmmaldpalhjeaa
open Go.RowKit Go.Peri
namespace C12
theorem eqPrd (a b : Prd) (w : World) : (Op.equalIn 10000 146 (.agg #[.int .i64 a.kind, .string a.name, .string a.value]) (.agg #[.int .i64 b.kind, .string b.name, .string b.value])).run Try.prog w = .ok (decide (a = b)) w := by
  rw [show (10000 : Nat) = 9999 + 1 from rfl, run_equalIn_struct w 9999 146 _ _ (by kernel_rfl) (by kernel_rfl)]
  simp only [Program.fieldsOf, Try.underlying146, Op.eqFields]
  go_simp
  have inj_name : a.name.toList = b.name.toList → a.name = b.name := fun h => Go.WideShapes.bytes_inj (by rw [← ByteArray.toList_eq, ← ByteArray.toList_eq, h])
  have inj_value : a.value.toList = b.value.toList → a.value = b.value := fun h => Go.WideShapes.bytes_inj (by rw [← ByteArray.toList_eq, ← ByteArray.toList_eq, h])
  have ext : a.kind = b.kind → a.name.toList = b.name.toList → a.value.toList = b.value.toList → a = b := by
    intro h0 h1 h2
    have h1 := inj_name h1
    have h2 := inj_value h2
    obtain ⟨⟩ := a
    obtain ⟨⟩ := b
    simp_all
  by_cases h : a = b
  · subst h; simp
  · rw [decide_eq_false h]
    repeat' (split <;> try rfl)
    exact absurd (ext (by assumption) (by assumption) (by assumption)) h
set_option maxRecDepth 100000 in
theorem psame_any {p q : Nat → Prop} (u v : Value) (l m : List Prd) (r : Bool) (W : World) (h : RowsOf p Prd.enc 3 W u l) (hp : ∀ b, p b → b < W.heap.size) (h2 : RowsOf q Prd.enc 3 W v m) (hq : ∀ b, q b → b < W.heap.size) (hl : l.length ≤ 1000000000000) (hm : m.length ≤ 1000000000000)
    (hr : decide (l = m) = r) :
    Calls Try.prog 111 #[u, v] W fun e w' => e = .returned (.bool r) ∧ Below W.heap.size W w' := by
  obtain ⟨a, cap, rfl, hlc, hcm, _, hcell⟩ := h
  obtain ⟨a2, cap2, rfl, hlc2, hcm2, _, hcell2⟩ := h2
  have HP := hid hp
  have HQ := hid hq
  have HC := hid hcell
  have HC2 := hid hcell2
  have HR := hid hr
  clear hp hq hcell hcell2 hr
  by_cases hlen : l.length = m.length
  · have HLEN := hid hlen
    have hle2 : ((l.length : Int) == (m.length : Int)) = true := by simp [hlen]
    have hle3 : ((m.length : Int) == (m.length : Int)) = true := by simp
    generalize hn : l.length = n at hlen hlc hl HLEN hle2
    have HN := hid hn
    clear hn
    subst hlen
    go_enter Try.func111, Try.ntmps111
    go_wp2_with fail
    go_loopw [5] (fun i wr => ∃ k : Nat, k ≤ m.length ∧ i = .int .i64 k ∧ Below W.heap.size W wr ∧ ∀ j (_ : j < k) (h1 : j < l.length) (h2 : j < m.length), l[j] = m[j]) (fun i _ => m.length - (intOf i).toNat)
    case atStart => exact ⟨0, Nat.zero_le _, rfl, Below.refl _ _, fun j hj => absurd hj (Nat.not_lt_zero _)⟩
    case round =>
      obtain ⟨k, hk, rfl, hb, hno⟩ := hrel
      have HB := hid hb
      have HE := hid hno
      clear hb hno
      by_cases hlt : k < m.length
      · have hlt1 : k < l.length := by rw [HN.out]; exact hlt
        obtain ⟨b, off, rfl, hpb, hc⟩ := HC.out.resolve_left (by intro e; rw [e] at hlt1; simp at hlt1)
        obtain ⟨b2, off2, rfl, hpb2, hc2⟩ := HC2.out.resolve_left (by intro e; rw [e] at hlt; simp at hlt)
        have hbl : b < wr.heap.size := Nat.lt_of_lt_of_le (HP.out b hpb) HB.out.size
        have hbl2 : b2 < wr.heap.size := Nat.lt_of_lt_of_le (HQ.out b2 hpb2) HB.out.size
        obtain ⟨c0, c1, c2⟩ := Prd.cells (fun j u hu => (HB.out.cell (p := ⟨b, off + k * 3 + j, none⟩) (HP.out b hpb)).trans (hc k hlt1 j u hu))
        obtain ⟨d0, d1, d2⟩ := Prd.cells (fun j u hu => (HB.out.cell (p := ⟨b2, off2 + k * 3 + j, none⟩) (HQ.out b2 hpb2)).trans (hc2 k hlt j u hu))
        have HNext : Hid (l[k] = m[k] → ∀ j (_ : j < k + 1) (h1 : j < l.length) (h2 : j < m.length), l[j] = m[j]) := by
          intro he j hj h1 h2
          by_cases e : j = k
          · subst e; exact he
          · exact HE.out j (by omega) h1 h2
        have HHit : Hid (l[k] ≠ m[k] → l ≠ m) := fun hh e => hh (by subst e; rfl)
        clear hc hc2
        generalize l[k] = x at c0 c1 c2 HNext HHit
        generalize m[k] = y at d0 d1 d2 HNext HHit
        have hee := eqPrd x y
        by_cases hxy : x = y
        · have HX := hid hxy
          rw [decide_eq_true hxy] at hee
          clear hxy
          go_wp2_with fail
          refine wp_region_bw (by kernel_rfl) (by kernel_rfl) ?_
          repeat (go_big_quiet_step (fail))
          refine wpQuiet_nil ?_
          rintro w2 ⟨⟨_, hb2⟩, rfl⟩
          have HB2 : Hid (Below W.heap.size W w2) := HB.out.trans (hb2.mono HB.out.size)
          clear hb2
          go_wp2_with fail
          go_roundw
          case rel => exact ⟨k + 1, by omega, by go_num, HB2.out, HNext.out HX.out⟩
          case measure => simp [intOf]; omega
        · have HX := hid hxy
          rw [decide_eq_false hxy] at hee
          clear hxy
          go_wp2_with fail
          refine wp_region_bw (by kernel_rfl) (by kernel_rfl) ?_
          repeat (go_big_quiet_step (fail))
          refine wpQuiet_nil ?_
          rintro w2 ⟨⟨_, hb2⟩, rfl⟩
          have HB2 : Hid (Below W.heap.size W w2) := HB.out.trans (hb2.mono HB.out.size)
          clear hb2
          go_wp2_with fail
          go_ret
          exact ⟨by rw [← HR.out, decide_eq_false (HHit.out HX.out)]; rfl, HB2.out⟩
      · obtain rfl : k = m.length := by omega
        go_wp2_with fail
        go_ret
        have : l = m := List.ext_getElem HN.out (fun j h1 h2 => HE.out j h2 h1 h2)
        exact ⟨by rw [← HR.out, decide_eq_true this]; rfl, HB.out⟩
  · have HL : Hid (l ≠ m) := fun e => hlen (by rw [e])
    have hle2 : ((l.length : Int) == (m.length : Int)) = false := by rw [beq_eq_false_iff_ne]; omega
    clear hlen
    go_enter Try.func111, Try.ntmps111
    go_wp2_with fail
    go_ret
    exact ⟨by rw [← HR.out, decide_eq_false HL.out]; rfl, Below.refl _ _⟩
end C12
end Go.Proofs.Ytmmmaldpalhjeaa
namespace Go.Proofs.Ytmmmaldpalhjeaa
open Go.RowKit Go.Peri
namespace C12
theorem addr_add (b o j : Nat) : (⟨b, o, none⟩ : Addr).add j = ⟨b, o + j, none⟩ := by
  unfold Addr.add; split
  · rename_i hz; rw [hz]; rfl
  · rfl
theorem elemP : Elem Try.prog 58 146 3 40 := Elem.mk' (z := .agg #[.int .i64 0, .string ByteArray.empty, .string ByteArray.empty]) Try.underlying58 (by kernel_rfl) rfl (by decide)
set_option maxRecDepth 100000 in
theorem pclone_any {p : Nat → Prop} (v : Value) (l : List Prd) (W : World) (h : RowsOf p Prd.enc 3 W v l) (hp : ∀ b, p b → b < W.heap.size) (hl : l.length ≤ 1000000) :
    Calls Try.prog 150 #[v] W fun e w' => ∃ a cap, e = .returned (.slice a l.length cap) ∧ Below W.heap.size W w' ∧ Hid (w'.ownsRow W.heap.size 146 3 (.slice a l.length cap) l.length (l.flatMap Prd.enc)) := by
  have qnil : ∀ (w : World) (a : Option Addr) (n c : Nat), (binOp .eql 58 (.slice a n c) (.slice none 0 0)).run Try.prog w = .ok (.bool a.isNone) w := fun w a n c => Lib.run_eql_slice_nil w 58 146 a n c 0 0 Try.underlying58
  have HV := hid h
  have HP := hid hp
  obtain ⟨a, cap, rfl, hlc, hcm, hnn, _⟩ := h
  clear hp
  cases a with
  | none =>
    have hc0 := hnn rfl
    subst hc0
    have hl0 : l.length = 0 := by omega
    have hln : l = [] := List.length_eq_zero_iff.1 hl0
    subst hln
    go_enter Try.func150, Try.ntmps150
    go_wp2_with fail
    go_ret
    exact ⟨none, 0, rfl, Below.refl _ _, World.ownsRow_nil _ _ _ _⟩
  | some ad =>
    have HC : Hid (Cellz p 3 (W.alloc (.cells #[] 146)) (.slice (some ad) l.length cap) l.length (l.flatMap Prd.enc)) := (HV.out.below (B := W.heap.size) ((Below.refl _ W).alloc (Nat.le_refl _) _) HP.out).cellz Prd.enc_length
    go_enter Try.func150, Try.ntmps150
    go_wp2_with (at_builtin; refine wpList_pushCells elemP rfl _ _ rfl W.heap.size _ 0 [] rfl (World.ownsRow_made W #[] 0 (Nat.le_refl _) (Nat.zero_le _) (by simp)) rfl HC.out (Prd.one l) ?_ ?_ ?_ ?_)
    · unfold maxLen; omega
    · omega
    · simp
    intro v1 w1 hown hb
    have HB : Hid (Below W.heap.size W w1) := ((Below.refl _ W).alloc (Nat.le_refl _) _).trans hb
    have hown2 : w1.ownsRow W.heap.size 146 3 v1 l.length (l.flatMap Prd.enc) := by simpa using hown
    have hr : RowsOf (fun b => W.heap.size ≤ b ∧ b < w1.heap.size) Prd.enc 3 w1 v1 l := RowsOf.of_owns Prd.enc_length hown2
    have HR := hid hown2
    clear hown2
    obtain ⟨a1, cap1, rfl, _⟩ := hr
    clear hown hb
    go_wp2_with fail
    go_ret
    exact ⟨a1, cap1, rfl, HB.out, HR.out⟩
end C12
end Go.Proofs.Ytmmmaldpalhjeaa
