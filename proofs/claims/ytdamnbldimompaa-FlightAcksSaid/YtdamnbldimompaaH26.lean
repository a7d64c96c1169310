/- The law FlightAcks walked (26); no condition. -/
import Derived.Test.YtdamnbldimompaaF26
namespace Go.Peri
namespace Sq
theorem rest_comm (l : List Sq) (a b : Int) : rest (rest l a) b = rest (rest l b) a := by
  unfold rest
  rw [List.filter_filter, List.filter_filter]
  refine List.filter_congr fun x _ => ?_
  exact Bool.and_comm _ _
theorem rest_again (l : List Sq) (a : Int) : rest (rest l a) a = rest l a := by
  unfold rest
  rw [List.filter_filter]
  refine List.filter_congr fun x _ => ?_
  exact Bool.and_self _
theorem rest_len (l : List Sq) (a : Int) : (rest l a).length ≤ l.length := List.length_filter_le _ _
theorem rest_sp {l : List Sq} {N : Nat} (h : ∀ k ∈ l, k.sp.length ≤ N) (a : Int) : ∀ k ∈ rest l a, k.sp.length ≤ N := fun k hk => h k (List.mem_filter.1 hk).1
end Sq
end Go.Peri
namespace Go.Proofs.Ytdamnbldimompaa
open Go.RowKit Go.Peri
namespace C26
open Sq (rest total)
/-- What must come of fixed calls. -/
abbrev Known : Prop := ∀ w, Calls Try.prog 18 #[] w fun e w' => e = .returned (.bool true) ∧ Below w.heap.size w w'
set_option maxRecDepth 100000 in
set_option maxHeartbeats 16000000 in
theorem acks_walk (K : Known) (v : Value) (l : List Sq) (a b : Int) (W : World) (h : RowsOf (· < W.heap.size) Sq.enc 5 W v l) (hll : l.length * 56 ≤ 140737488351232) (ha : ∀ x ∈ l, x.Wf W W.heap.size) :
    Calls Try.prog 6 #[v, .int .i64 a, .int .i64 b] W fun e w' => e = .returned (.bool true) ∧ Below W.heap.size W w' := by
  have HK := hid K
  obtain ⟨q, hq⟩ : ∃ q, Sq.few l = q := ⟨_, rfl⟩
  have XF := hid (few_any v l q W h (by omega) hq)
  obtain ⟨a0, cap, rfl⟩ : ∃ a cap, v = .slice a l.length cap := by
    obtain ⟨a, cap, e, _⟩ := h
    exact ⟨a, cap, e⟩
  have HQ := hid hq
  have HR : Hid (FR W (l.map Sq.core) a0 l.length cap W) := hid ⟨l, rfl, rfl, Below.refl _ _, h, fun x hx => (ha x hx).rows⟩
  clear h hq ha
  generalize hcl : l.map Sq.core = cl at HR
  have hn : l.length = cl.length := by rw [← hcl, List.length_map]
  cases q
  · clear hcl hn
    go_enter Try.func6, Try.ntmps6
    go_wp2_with fail
    refine XF.out.mono ?_
    rintro e w1 ⟨rfl, rfl⟩
    go_wp2_with fail
    refine (HK.out _).mono ?_
    rintro e wk ⟨rfl, hbk⟩
    have HBK := hid hbk
    clear hbk
    go_wp2_with fail
    go_ret
    exact ⟨rfl, HBK.out⟩
  · have hl30 := Sq.few_len HQ.out
    have hsp : ∀ k ∈ cl, k.sp.length ≤ 60 := by
      intro k hk
      rw [← hcl] at hk
      obtain ⟨x, hx, rfl⟩ := List.mem_map.1 hk
      exact Sq.few_sp HQ.out x hx
    have hclen : cl.length ≤ 30 := by omega
    clear hcl
    have sp6 : ∀ {m : List Sq}, (∀ k ∈ m, k.sp.length ≤ 60) → ∀ k ∈ m, k.sp.length ≤ 1000000 := fun h k hk => Nat.le_trans (h k hk) (by decide)
    have hpl := Sq.rest_len cl a
    have hsl := Sq.rest_len cl b
    have hps := Sq.rest_sp hsp a
    have hss := Sq.rest_sp hsp b
    have hrl := Sq.rest_len (rest cl a) b
    have hrs := Sq.rest_sp hps b
    have hrc := Sq.rest_comm cl a b
    have hra := Sq.rest_again cl a
    have htot : ∀ {m : List Sq}, m.length ≤ 30 → (∀ k ∈ m, k.sp.length ≤ 60) → total m ≤ 30000000 := fun h1 h2 => Nat.le_trans (Sq.total_le (sp6 h2)) (by omega)
    have ht0 := htot hclen hsp
    have htp := htot (by omega : (rest cl a).length ≤ 30) hps
    have hts := htot (by omega : (rest cl b).length ≤ 30) hss
    have htr := htot (by omega : (rest (rest cl a) b).length ≤ 30) hrs
    -- contracts
    have X1 := hid (ack_of HR.out a (by omega) (sp6 hsp))
    have X2 : Hid (∀ {W' w' : World} {a' : Option Addr} {n c : Nat}, FR W' (rest cl a) a' n c w' → Calls Try.prog 19 #[.slice a' n c, .int .i64 b] w' (Ret (AckQ w' (rest cl a) b))) := hid (fun h => ack_of h b (by omega) (sp6 hps))
    have X3 : Hid (∀ {W' w' : World} {a' : Option Addr} {n c : Nat}, FR W' cl a' n c w' → Calls Try.prog 19 #[.slice a' n c, .int .i64 b] w' (Ret (AckQ w' cl b))) := hid (fun h => ack_of h b (by omega) (sp6 hsp))
    have X4 : Hid (∀ {W' w' : World} {a' : Option Addr} {n c : Nat}, FR W' (rest cl b) a' n c w' → Calls Try.prog 19 #[.slice a' n c, .int .i64 a] w' (Ret (AckQ w' (rest cl b) a))) := hid (fun h => ack_of h a (by omega) (sp6 hss))
    have X5 : Hid (∀ {W' w' : World} {a' : Option Addr} {n c : Nat}, FR W' (rest cl a) a' n c w' → Calls Try.prog 19 #[.slice a' n c, .int .i64 a] w' (Ret (AckQ w' (rest cl a) a))) := hid (fun h => ack_of h a (by omega) (sp6 hps))
    have XS : Hid (∀ {W1 W2 w' : World} {a1 a2 : Option Addr} {n1 n2 c1 c2 : Nat}, FR W1 (rest (rest cl a) b) a1 n1 c1 w' → FR W2 (rest (rest cl a) b) a2 n2 c2 w' → Calls Try.prog 20 #[.slice a1 n1 c1, .slice a2 n2 c2] w' fun e w'' => e = .returned (.bool true) ∧ Below w'.heap.size w' w'') := hid (fun h1 h2 => same_of h1 h2 (by omega) (by omega) (sp6 hrs) (sp6 hrs) true (decide_eq_true rfl))
    have XU : Hid (∀ {W1 W2 w' : World} {a1 a2 : Option Addr} {n1 n2 c1 c2 : Nat}, FR W1 (rest cl a) a1 n1 c1 w' → FR W2 (rest cl a) a2 n2 c2 w' → Calls Try.prog 20 #[.slice a1 n1 c1, .slice a2 n2 c2] w' fun e w'' => e = .returned (.bool true) ∧ Below w'.heap.size w' w'') := hid (fun h1 h2 => same_of h1 h2 (by omega) (by omega) (sp6 hps) (sp6 hps) true (decide_eq_true rfl))
    have XT : Hid (∀ {W' w' : World} {a' : Option Addr} {n c : Nat}, FR W' (rest (rest cl a) b) a' n c w' → Calls Try.prog 21 #[.slice a' n c] w' fun e w'' => e = .returned (.int .i64 (total (rest (rest cl a) b) : Nat)) ∧ Below w'.heap.size w' w'') := hid (fun h => spans_of h (by omega) (sp6 hrs))
    have XL : Hid (∀ {W' w' : World} {a' : Option Addr} {n c : Nat}, FR W' cl a' n c w' → Calls Try.prog 21 #[.slice a' n c] w' fun e w'' => e = .returned (.int .i64 (total cl : Nat)) ∧ Below w'.heap.size w' w'') := hid (fun h => spans_of h (by omega) (sp6 hsp))
    have E4 : Hid (rest (rest cl b) a = rest (rest cl a) b) := hid hrc.symm
    have E5 : Hid (rest (rest cl a) a = rest cl a) := hid hra
    have HT : Hid (total cl ≤ 30000000 ∧ total (rest cl a) ≤ 30000000 ∧ total (rest cl b) ≤ 30000000 ∧ total (rest (rest cl a) b) ≤ 30000000) := hid ⟨ht0, htp, hts, htr⟩
    clear hpl hsl hps hss hrl hrs hrc hra htot ht0 htp hts htr hsp hclen sp6 hl30 hll hn HQ
    generalize l.length = n0 at *
    go_enter Try.func6, Try.ntmps6
    go_wp2_with fail
    refine XF.out.mono ?_
    rintro e w0 ⟨rfl, rfl⟩
    go_wp2_with fail
    refine X1.out.mono ?_
    rintro e w1 ⟨v1, rfl, p1, n1, c1, rfl, hf1⟩
    have HP1 := hid hf1.self
    have HL1 := hid (HR.out.later hf1.below)
    have HB1 := hid hf1.below
    have Y2 := hid (X2.out hf1)
    clear hf1 X1 XF HR
    obtain ⟨d1, hd1⟩ : ∃ d, ((total cl : Int) - (total (rest cl a) : Int)) = d := ⟨_, rfl⟩
    rw [hd1]
    have HD1 := hid hd1
    clear hd1
    go_wp2_with fail
    refine Y2.out.mono ?_
    rintro e w2 ⟨v2, rfl, p2, n2, c2, rfl, hf2⟩
    have HR2 := hid hf2.self
    have HL2 := hid (HL1.out.later hf2.below)
    have HP2 := hid (HP1.out.later hf2.below)
    have HB2 := hid (HB1.out.trans (hf2.below.mono HB1.out.size))
    have Y3 := hid (X3.out HL2.out)
    clear hf2 X2 Y2 HL1 HP1 HB1
    obtain ⟨d2, hd2⟩ : ∃ d, ((total (rest cl a) : Int) - (total (rest (rest cl a) b) : Int)) = d := ⟨_, rfl⟩
    rw [hd2]
    have HD2 := hid hd2
    clear hd2
    go_wp2_with fail
    refine Y3.out.mono ?_
    rintro e w3 ⟨v3, rfl, p3, n3, c3, rfl, hf3⟩
    have HL3 := hid (HL2.out.later hf3.below)
    have HP3 := hid (HP2.out.later hf3.below)
    have HR3 := hid (HR2.out.later hf3.below)
    have HB3 := hid (HB2.out.trans (hf3.below.mono HB2.out.size))
    have Y4 := hid (X4.out hf3)
    clear hf3 X3 Y3 HL2 HP2 HB2 HR2
    obtain ⟨d3, hd3⟩ : ∃ d, ((total cl : Int) - (total (rest cl b) : Int)) = d := ⟨_, rfl⟩
    rw [hd3]
    have HD3 := hid hd3
    clear hd3
    go_wp2_with fail
    refine Y4.out.mono ?_
    rintro e w4 ⟨v4, rfl, p4, n4, c4, rfl, hf4⟩
    rw [E4.out] at hf4
    rw [E4.out]
    have HT4 := hid hf4.self
    have HL4 := hid (HL3.out.later hf4.below)
    have HP4 := hid (HP3.out.later hf4.below)
    have HR4 := hid (HR3.out.later hf4.below)
    have HB4 := hid (HB3.out.trans (hf4.below.mono HB3.out.size))
    have Y5 := hid (X5.out HP4.out)
    clear hf4 X4 Y4 HL3 HP3 HB3 HR3
    obtain ⟨d4, hd4⟩ : ∃ d, ((total (rest cl b) : Int) - (total (rest (rest cl a) b) : Int)) = d := ⟨_, rfl⟩
    rw [hd4]
    have HD4 := hid hd4
    clear hd4
    go_wp2_with fail
    refine Y5.out.mono ?_
    rintro e w5 ⟨v5, rfl, p5, n5, c5, rfl, hf5⟩
    rw [E5.out] at hf5
    rw [E5.out]
    have HU5 := hid hf5.self
    have HT5 := hid (HT4.out.later hf5.below)
    have HL5 := hid (HL4.out.later hf5.below)
    have HP5 := hid (HP4.out.later hf5.below)
    have HR5 := hid (HR4.out.later hf5.below)
    have HB5 := hid (HB4.out.trans (hf5.below.mono HB4.out.size))
    have Y6 := hid (XS.out HR5.out HT5.out)
    clear hf5 X5 Y5 HL4 HP4 HB4 HR4 HT4
    obtain ⟨d5, hd5⟩ : ∃ d, ((total (rest cl a) : Int) - (total (rest cl a) : Int)) = d := ⟨_, rfl⟩
    rw [hd5]
    obtain ⟨T0, hT0⟩ : ∃ t, total cl = t := ⟨_, rfl⟩
    obtain ⟨Tp, hTp⟩ : ∃ t, total (rest cl a) = t := ⟨_, rfl⟩
    obtain ⟨Ts, hTs⟩ : ∃ t, total (rest cl b) = t := ⟨_, rfl⟩
    obtain ⟨Tr, hTr⟩ : ∃ t, total (rest (rest cl a) b) = t := ⟨_, rfl⟩
    rw [hT0, hTp] at HD1
    rw [hTp, hTr] at HD2
    rw [hT0, hTs] at HD3
    rw [hTs, hTr] at HD4
    rw [hT0, hTp, hTs, hTr] at HT
    rw [hTr] at XT
    rw [hT0] at XL
    have e1 := HD1.out
    have e2 := HD2.out
    have e3 := HD3.out
    have e4 := HD4.out
    obtain ⟨g0, gp, gs, gr⟩ := HT.out
    have k0 : d5 = 0 := by omega
    have k0b : (d5 == 0) = true := by rw [k0]; rfl
    have kw1 : IntKind.i64.wrap (d1 + d2) = d1 + d2 := by rw [IntKind.wrap_i64]; omega
    have kw2 : IntKind.i64.wrap (d3 + d4) = d3 + d4 := by rw [IntKind.wrap_i64]; omega
    have kw3 : IntKind.i64.wrap ((Tr : Int) + d1) = (Tr : Int) + d1 := by rw [IntKind.wrap_i64]; omega
    have kw4 : IntKind.i64.wrap ((Tr : Int) + d1 + d2) = (Tr : Int) + d1 + d2 := by rw [IntKind.wrap_i64]; omega
    have kq1 : (d1 + d2 == d3 + d4) = true := by rw [beq_iff_eq]; omega
    have kq2 : ((Tr : Int) + d1 + d2 == (T0 : Int)) = true := by rw [beq_iff_eq]; omega
    clear e1 e2 e3 e4 g0 gp gs gr k0 hd5 hT0 hTp hTs hTr HD1 HD2 HD3 HD4 HT
    go_wp2_with fail
    refine Y6.out.mono ?_
    rintro e w6 ⟨rfl, hb6⟩
    have HU6 := hid (HU5.out.later hb6)
    have HP6 := hid (HP5.out.later hb6)
    have HL6 := hid (HL5.out.later hb6)
    have HR6 := hid (HR5.out.later hb6)
    have HB6 := hid (HB5.out.trans (hb6.mono HB5.out.size))
    have Y7 := hid (XU.out HU6.out HP6.out)
    clear hb6 XS Y6 HU5 HP5 HL5 HR5 HB5 HT5
    go_wp2_with fail
    refine Y7.out.mono ?_
    rintro e w7 ⟨rfl, hb7⟩
    have HL7 := hid (HL6.out.later hb7)
    have HR7 := hid (HR6.out.later hb7)
    have HB7 := hid (HB6.out.trans (hb7.mono HB6.out.size))
    have Y8 := hid (XT.out HR7.out)
    clear hb7 XU Y7 HU6 HP6 HL6 HR6 HB6
    go_wp2_with fail
    refine Y8.out.mono ?_
    rintro e w8 ⟨rfl, hb8⟩
    have HL8 := hid (HL7.out.later hb8)
    have HB8 := hid (HB7.out.trans (hb8.mono HB7.out.size))
    have Y9 := hid (XL.out HL8.out)
    clear hb8 XT Y8 HL7 HR7 HB7
    go_wp2_with fail
    refine Y9.out.mono ?_
    rintro e w9 ⟨rfl, hb9⟩
    have HB9 := hid (HB8.out.trans (hb9.mono HB8.out.size))
    clear hb9 XL Y9 HL8 HB8
    go_wp2_with fail
    refine (HK.out _).mono ?_
    rintro e wa ⟨rfl, hba⟩
    have HBa := hid (HB9.out.trans (hba.mono HB9.out.size))
    clear hba
    go_wp2_with fail
    go_ret
    exact ⟨rfl, HBa.out⟩
end C26
end Go.Proofs.Ytdamnbldimompaa
