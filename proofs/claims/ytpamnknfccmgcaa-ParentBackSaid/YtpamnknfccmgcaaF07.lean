/- Walks of layer 7 (parent): whether a text is well formed; no condition. -/
import Derived.Test.YtpamnknfccmgcaaE07
import Derived.Test.YtpamnknfccmgcaaP04b
namespace Go.Proofs.Ytpamnknfccmgcaa
open Go.RowKit Go.Peri
namespace C07
open C01 C06
def ffs : ByteArray := ⟨#[102, 102]⟩
def zzs : ByteArray := ⟨#[48, 48]⟩
def dashB (s : ByteArray) (k : Nat) : Bool := decide ((s.data.toList.getD k 0).toNat = 45)
theorem dashB_at (s : ByteArray) (k : Nat) (h : k < s.size) : dashB s k = decide ((s[k]'h).toNat = 45) := by
  unfold dashB
  have hk : k < s.data.toList.length := by simpa using h
  rw [List.getD_eq_getElem?_getD, List.getElem?_eq_getElem hk]
  rfl
/-- A byte is the dash, or not: as the walk asks it. -/
structure Dash (s : ByteArray) (k : Nat) (h : k < s.size) (b : Bool) : Prop where
  eq : (((s[k]'h).toNat : Int) == 45) = b
  ne : (((s[k]'h).toNat : Int) != 45) = !b
theorem dash_of (s : ByteArray) (k : Nat) (h : k < s.size) {b : Bool} (hb : dashB s k = b) : Dash s k h b := by
  rw [dashB_at s k h] at hb
  subst hb
  have e : (((s[k]'h).toNat : Int) == 45) = decide ((s[k]'h).toNat = 45) := by
    by_cases g : (s[k]'h).toNat = 45
    · rw [g]; rfl
    · rw [decide_eq_false g]; exact beq_eq_false_iff_ne.2 (by omega)
  exact ⟨e, by rw [bne, e]⟩
def endR (s : ByteArray) : Bool := !decide (s.extract 0 2 = ffs) && (if decide (s.extract 0 2 = zzs) then decide (s.size = 55) else (decide (s.size = 55) || dashB s 55))
def tailR (s : ByteArray) : Nat → Bool
  | 0 => hexAll (s.extract 0 2) && (hexAll (s.extract 3 35) && (dashB s 2 && (hexAll (s.extract 36 52) && (dashB s 35 && (hexAll (s.extract 53 55) && (dashB s 52 && endR s))))))
  | 1 => hexAll (s.extract 3 35) && (dashB s 2 && (hexAll (s.extract 36 52) && (dashB s 35 && (hexAll (s.extract 53 55) && (dashB s 52 && endR s)))))
  | 2 => hexAll (s.extract 36 52) && (dashB s 35 && (hexAll (s.extract 53 55) && (dashB s 52 && endR s)))
  | 3 => hexAll (s.extract 53 55) && (dashB s 52 && endR s)
  | _ => endR s
def formR (s : ByteArray) : Bool := decide (55 ≤ s.size) && tailR s 0

set_option maxRecDepth 100000 in
theorem pieces_any (W : World) : Calls Try.prog 126 #[] W fun e w' => e = .returned (.agg #[.int .i64 0, .int .i64 2, .int .i64 3, .int .i64 35, .int .i64 36, .int .i64 52, .int .i64 53, .int .i64 55]) ∧ Below W.heap.size W w' := by
  go_enter Try.func126, Try.ntmps126
  go_wp2_with fail
  refine bodyPost_ret (by simp [results, Try.results126, go_sem]; try rfl) rfl ?_
  exact ⟨rfl, by go_grown⟩
theorem piece0 (W : World) : (Instr.index 141 (.agg #[.int .i64 0, .int .i64 2, .int .i64 3, .int .i64 35, .int .i64 36, .int .i64 52, .int .i64 53, .int .i64 55]) (.int .i64 0)).run Try.prog W = .ok (.agg #[.int .i64 0, .int .i64 2]) W := by
  (show _ = _); kernel_rfl
theorem piece1 (W : World) : (Instr.index 141 (.agg #[.int .i64 0, .int .i64 2, .int .i64 3, .int .i64 35, .int .i64 36, .int .i64 52, .int .i64 53, .int .i64 55]) (.int .i64 1)).run Try.prog W = .ok (.agg #[.int .i64 3, .int .i64 35]) W := by
  (show _ = _); kernel_rfl
theorem piece2 (W : World) : (Instr.index 141 (.agg #[.int .i64 0, .int .i64 2, .int .i64 3, .int .i64 35, .int .i64 36, .int .i64 52, .int .i64 53, .int .i64 55]) (.int .i64 2)).run Try.prog W = .ok (.agg #[.int .i64 36, .int .i64 52]) W := by
  (show _ = _); kernel_rfl
theorem piece3 (W : World) : (Instr.index 141 (.agg #[.int .i64 0, .int .i64 2, .int .i64 3, .int .i64 35, .int .i64 36, .int .i64 52, .int .i64 53, .int .i64 55]) (.int .i64 3)).run Try.prog W = .ok (.agg #[.int .i64 53, .int .i64 55]) W := by
  (show _ = _); kernel_rfl

set_option maxRecDepth 100000 in
set_option maxHeartbeats 1000000 in
theorem formed_any (s : ByteArray) (r : Bool) (W : World) (hs : s.size ≤ 1000000000000000) (hr : formR s = r) :
    Calls Try.prog 125 #[.string s] W fun e w' => e = .returned (.bool r) ∧ Below W.heap.size W w' := by
  unfold formR at hr
  by_cases hsz : s.size < 55
  · rw [decide_eq_false (by omega), Bool.false_and] at hr
    subst hr
    go_enter Try.func125, Try.ntmps125
    go_wp2_with fail
    go_ret
    exact ⟨rfl, Below.refl _ _⟩
  rw [decide_eq_true (by omega), Bool.true_and] at hr
  have HR := hid hr
  clear hr
  go_enter Try.func125, Try.ntmps125
  go_wp2_with fail
  refine (pieces_any _).mono ?_
  rintro e w0 ⟨rfl, hb0⟩
  have HB0 := hid hb0
  clear hb0
  go_wp2_with fail
  go_loopw [9] (fun i wr => ∃ k : Nat, k ≤ 4 ∧ i = .int .i64 k ∧ tailR s k = r ∧ Below W.heap.size W wr) (fun i _ => 4 - (intOf i).toNat)
  case atStart => exact ⟨0, by omega, rfl, HR.out, HB0.out⟩
  case round =>
    obtain ⟨k, hk, rfl, ht, hbr⟩ := hrel
    have HT := hid ht
    have HBR := hid hbr
    clear ht hbr
    match k, hk with
    | 0, _ =>
      have hp := piece0 wr
      have HBN : Hid (Below W.heap.size W (wr.alloc (.cells #[.int .i64 0, .int .i64 2] 140))) := hid (HBR.out.trans (by have := HBR.out.size; go_grown; all_goals omega))
      have HBLK := hid (fun w' (hw : Below (wr.alloc (.cells #[.int .i64 0, .int .i64 2] 140)).heap.size (wr.alloc (.cells #[.int .i64 0, .int .i64 2] 140)) w') => (Blk.new wr #[.int .i64 0, .int .i64 2] 140).later hw)
      have HD := hid (fun r hr w => pdigits_any s 0 1 2 r w (by omega) (by omega) hs hr)
      obtain ⟨q, hq⟩ : ∃ q, hexAll (s.extract 0 2) = q := ⟨_, rfl⟩
      have HDq := hid (HD.out q hq)
      have HT' : (hexAll (s.extract 0 2) && tailR s 1) = r := HT.out
      rw [hq] at HT'
      have HT2 := hid HT'
      clear hq HT' HD HT
      cases q
      · go_wp2_with fail
        refine (HDq.out _).mono ?_
        rintro e w1 ⟨rfl, hb1⟩
        have HB1 := hid (HBN.out.trans (hb1.mono HBN.out.size))
        clear hb1
        go_wp2_with fail
        go_ret
        exact ⟨by rw [← HT2.out]; rfl, HB1.out⟩
      · go_wp2_with fail
        refine (HDq.out _).mono ?_
        rintro e w1 ⟨rfl, hb1⟩
        have HB1 := hid (HBN.out.trans (hb1.mono HBN.out.size))
        clear hb1
        go_wp2_with fail
        go_roundw
        case rel => exact ⟨1, by omega, by go_num, by have := HT2.out; simpa using this, HB1.out⟩
        case measure => simp [intOf]
    | 1, _ =>
      have hp := piece1 wr
      have HBN : Hid (Below W.heap.size W (wr.alloc (.cells #[.int .i64 3, .int .i64 35] 140))) := hid (HBR.out.trans (by have := HBR.out.size; go_grown; all_goals omega))
      have HBLK := hid (fun w' (hw : Below (wr.alloc (.cells #[.int .i64 3, .int .i64 35] 140)).heap.size (wr.alloc (.cells #[.int .i64 3, .int .i64 35] 140)) w') => (Blk.new wr #[.int .i64 3, .int .i64 35] 140).later hw)
      have HD := hid (fun r hr w => pdigits_any s 3 16 35 r w (by omega) (by omega) hs hr)
      obtain ⟨q, hq⟩ : ∃ q, hexAll (s.extract 3 35) = q := ⟨_, rfl⟩
      have HDq := hid (HD.out q hq)
      have HT' : (hexAll (s.extract 3 35) && (dashB s 2 && tailR s 2)) = r := HT.out
      rw [hq] at HT'
      have HT2 := hid HT'
      clear hq HT' HD HT
      obtain ⟨c, hc⟩ : ∃ c, dashB s 2 = c := ⟨_, rfl⟩
      have hdd := dash_of s 2 (by omega) hc
      have ha1 : 2 < s.size := by omega
      have hd1 := hdd.eq
      have hd2 := hdd.ne
      have HT' := HT2.out
      rw [hc] at HT'
      have HT3 := hid HT'
      clear hc hdd HT' HT2
      cases q
      · go_wp2_with fail
        refine (HDq.out _).mono ?_
        rintro e w1 ⟨rfl, hb1⟩
        have HB1 := hid (HBN.out.trans (hb1.mono HBN.out.size))
        clear hb1
        go_wp2_with fail
        go_ret
        exact ⟨by rw [← HT3.out]; rfl, HB1.out⟩
      · cases c
        · go_wp2_with fail
          refine (HDq.out _).mono ?_
          rintro e w1 ⟨rfl, hb1⟩
          have HB1 := hid (HBN.out.trans (hb1.mono HBN.out.size))
          have c0 : w1.cell? ⟨wr.heap.size, 0, none⟩ = some (.int .i64 3) := (HBLK.out _ hb1).cell 0
          clear hb1
          go_wp2_with fail
          go_ret
          exact ⟨by rw [← HT3.out]; rfl, HB1.out⟩
        · go_wp2_with fail
          refine (HDq.out _).mono ?_
          rintro e w1 ⟨rfl, hb1⟩
          have HB1 := hid (HBN.out.trans (hb1.mono HBN.out.size))
          have c0 : w1.cell? ⟨wr.heap.size, 0, none⟩ = some (.int .i64 3) := (HBLK.out _ hb1).cell 0
          clear hb1
          go_wp2_with fail
          go_roundw
          case rel => exact ⟨2, by omega, by go_num, by have := HT3.out; simpa using this, HB1.out⟩
          case measure => simp [intOf]
    | 2, _ =>
      have hp := piece2 wr
      have HBN : Hid (Below W.heap.size W (wr.alloc (.cells #[.int .i64 36, .int .i64 52] 140))) := hid (HBR.out.trans (by have := HBR.out.size; go_grown; all_goals omega))
      have HBLK := hid (fun w' (hw : Below (wr.alloc (.cells #[.int .i64 36, .int .i64 52] 140)).heap.size (wr.alloc (.cells #[.int .i64 36, .int .i64 52] 140)) w') => (Blk.new wr #[.int .i64 36, .int .i64 52] 140).later hw)
      have HD := hid (fun r hr w => pdigits_any s 36 8 52 r w (by omega) (by omega) hs hr)
      obtain ⟨q, hq⟩ : ∃ q, hexAll (s.extract 36 52) = q := ⟨_, rfl⟩
      have HDq := hid (HD.out q hq)
      have HT' : (hexAll (s.extract 36 52) && (dashB s 35 && tailR s 3)) = r := HT.out
      rw [hq] at HT'
      have HT2 := hid HT'
      clear hq HT' HD HT
      obtain ⟨c, hc⟩ : ∃ c, dashB s 35 = c := ⟨_, rfl⟩
      have hdd := dash_of s 35 (by omega) hc
      have ha1 : 35 < s.size := by omega
      have hd1 := hdd.eq
      have hd2 := hdd.ne
      have HT' := HT2.out
      rw [hc] at HT'
      have HT3 := hid HT'
      clear hc hdd HT' HT2
      cases q
      · go_wp2_with fail
        refine (HDq.out _).mono ?_
        rintro e w1 ⟨rfl, hb1⟩
        have HB1 := hid (HBN.out.trans (hb1.mono HBN.out.size))
        clear hb1
        go_wp2_with fail
        go_ret
        exact ⟨by rw [← HT3.out]; rfl, HB1.out⟩
      · cases c
        · go_wp2_with fail
          refine (HDq.out _).mono ?_
          rintro e w1 ⟨rfl, hb1⟩
          have HB1 := hid (HBN.out.trans (hb1.mono HBN.out.size))
          have c0 : w1.cell? ⟨wr.heap.size, 0, none⟩ = some (.int .i64 36) := (HBLK.out _ hb1).cell 0
          clear hb1
          go_wp2_with fail
          go_ret
          exact ⟨by rw [← HT3.out]; rfl, HB1.out⟩
        · go_wp2_with fail
          refine (HDq.out _).mono ?_
          rintro e w1 ⟨rfl, hb1⟩
          have HB1 := hid (HBN.out.trans (hb1.mono HBN.out.size))
          have c0 : w1.cell? ⟨wr.heap.size, 0, none⟩ = some (.int .i64 36) := (HBLK.out _ hb1).cell 0
          clear hb1
          go_wp2_with fail
          go_roundw
          case rel => exact ⟨3, by omega, by go_num, by have := HT3.out; simpa using this, HB1.out⟩
          case measure => simp [intOf]
    | 3, _ =>
      have hp := piece3 wr
      have HBN : Hid (Below W.heap.size W (wr.alloc (.cells #[.int .i64 53, .int .i64 55] 140))) := hid (HBR.out.trans (by have := HBR.out.size; go_grown; all_goals omega))
      have HBLK := hid (fun w' (hw : Below (wr.alloc (.cells #[.int .i64 53, .int .i64 55] 140)).heap.size (wr.alloc (.cells #[.int .i64 53, .int .i64 55] 140)) w') => (Blk.new wr #[.int .i64 53, .int .i64 55] 140).later hw)
      have HD := hid (fun r hr w => pdigits_any s 53 1 55 r w (by omega) (by omega) hs hr)
      obtain ⟨q, hq⟩ : ∃ q, hexAll (s.extract 53 55) = q := ⟨_, rfl⟩
      have HDq := hid (HD.out q hq)
      have HT' : (hexAll (s.extract 53 55) && (dashB s 52 && tailR s 4)) = r := HT.out
      rw [hq] at HT'
      have HT2 := hid HT'
      clear hq HT' HD HT
      obtain ⟨c, hc⟩ : ∃ c, dashB s 52 = c := ⟨_, rfl⟩
      have hdd := dash_of s 52 (by omega) hc
      have ha1 : 52 < s.size := by omega
      have hd1 := hdd.eq
      have hd2 := hdd.ne
      have HT' := HT2.out
      rw [hc] at HT'
      have HT3 := hid HT'
      clear hc hdd HT' HT2
      cases q
      · go_wp2_with fail
        refine (HDq.out _).mono ?_
        rintro e w1 ⟨rfl, hb1⟩
        have HB1 := hid (HBN.out.trans (hb1.mono HBN.out.size))
        clear hb1
        go_wp2_with fail
        go_ret
        exact ⟨by rw [← HT3.out]; rfl, HB1.out⟩
      · cases c
        · go_wp2_with fail
          refine (HDq.out _).mono ?_
          rintro e w1 ⟨rfl, hb1⟩
          have HB1 := hid (HBN.out.trans (hb1.mono HBN.out.size))
          have c0 : w1.cell? ⟨wr.heap.size, 0, none⟩ = some (.int .i64 53) := (HBLK.out _ hb1).cell 0
          clear hb1
          go_wp2_with fail
          go_ret
          exact ⟨by rw [← HT3.out]; rfl, HB1.out⟩
        · go_wp2_with fail
          refine (HDq.out _).mono ?_
          rintro e w1 ⟨rfl, hb1⟩
          have HB1 := hid (HBN.out.trans (hb1.mono HBN.out.size))
          have c0 : w1.cell? ⟨wr.heap.size, 0, none⟩ = some (.int .i64 53) := (HBLK.out _ hb1).cell 0
          clear hb1
          go_wp2_with fail
          go_roundw
          case rel => exact ⟨4, by omega, by go_num, by have := HT3.out; simpa using this, HB1.out⟩
          case measure => simp [intOf]
    | 4, _ =>
      have HE : Hid (endR s = r) := HT
      clear HT HR
      unfold endR at HE
      obtain ⟨q1, h1⟩ : ∃ q, decide (s.extract 0 2 = ffs) = q := ⟨_, rfl⟩
      obtain ⟨q2, h2⟩ : ∃ q, decide (s.extract 0 2 = zzs) = q := ⟨_, rfl⟩
      have E1 := strEq_of h1
      have E2 := strEq_of h2
      rw [h1, h2] at HE
      have k1 : ((s.extract 0 2).toList == [102, 102]) = q1 := by rw [← E1.eq, show ffs.toList = [102, 102] from ByteArray.toList_eq _]
      have k2 : ((s.extract 0 2).toList == [48, 48]) = q2 := by rw [← E2.eq, show zzs.toList = [48, 48] from ByteArray.toList_eq _]
      clear h1 h2 E1 E2
      cases q1
      case true =>
        go_wp2_with fail
        go_ret
        exact ⟨by rw [← HE.out]; rfl, HBR.out⟩
      cases q2
      case true =>
        obtain ⟨q3, h3⟩ : ∃ q, decide (s.size = 55) = q := ⟨_, rfl⟩
        have h3' : ((s.size : Int) == 55) = q3 := by
          rw [← h3]
          by_cases g : s.size = 55
          · rw [g]; rfl
          · rw [decide_eq_false g]; exact beq_eq_false_iff_ne.2 (by omega)
        rw [h3] at HE
        clear h3
        go_wp2_with fail
        go_ret
        exact ⟨by rw [← HE.out]; rfl, HBR.out⟩
      by_cases g : s.size = 55
      · have h3' : ((s.size : Int) == 55) = true := by rw [g]; rfl
        rw [decide_eq_true g] at HE
        clear g
        go_wp2_with fail
        go_ret
        exact ⟨by rw [← HE.out]; rfl, HBR.out⟩
      · have h3' : ((s.size : Int) == 55) = false := beq_eq_false_iff_ne.2 (by omega)
        obtain ⟨c, hc⟩ : ∃ c, dashB s 55 = c := ⟨_, rfl⟩
        have ha1 : 55 < s.size := by omega
        have hdd := dash_of s 55 ha1 hc
        have hd1 := hdd.eq
        rw [decide_eq_false g, hc] at HE
        clear hc hdd g
        go_wp2_with fail
        go_ret
        exact ⟨by rw [← HE.out]; rfl, HBR.out⟩
    | n + 5, h => exact absurd h (by omega)
end C07
end Go.Proofs.Ytpamnknfccmgcaa
