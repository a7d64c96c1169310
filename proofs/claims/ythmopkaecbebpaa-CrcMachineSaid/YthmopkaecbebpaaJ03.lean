/- Walks of layer 3 (crc): a machine's sum of parts; no condition. -/
import Derived.Test.YthmopkaecbebpaaI03
namespace Go.Peri
namespace Crc
/-- Parts, one after another. -/
def flat (l : List ByteArray) : List UInt8 := l.flatMap fun s => s.data.toList
theorem flat_take (l : List ByteArray) (k : Nat) (h : k < l.length) : flat (l.take (k + 1)) = flat (l.take k) ++ l[k].data.toList := by
  unfold flat
  rw [List.take_succ_eq_append_getElem h, List.flatMap_append]
  simp
theorem flat_le (l : List ByteArray) (k : Nat) : (flat (l.take k)).length ≤ (flat l).length := by
  have := congrArg (fun x => (flat x).length) (List.take_append_drop k l)
  simp only [flat, List.flatMap_append, List.length_append] at this
  unfold flat
  omega
end Crc
end Go.Peri
namespace Go.Proofs.Ythmopkaecbebpaa
open Go.RowKit Go.Peri
namespace C03
theorem do_any (g : Nat) (bs : Int) (w : World) (h : Mach w g 0 0 0 bs (fun _ => 0) ∨ Mach w g 1 0 1 bs Crc.step) :
    Calls Try.prog 100 #[.pointer (some ⟨g, 0, none⟩), .func (.func 101) #[.pointer (some ⟨g, 0, none⟩)] #[]] w fun e w' => e = .returned (.tuple #[]) ∧ Only [g] w w' ∧ Hid (Mach w' g 1 0 1 bs Crc.step) := by
  rcases h with h | h
  · exact do_first g bs _ w h
  · refine (do_done ⟨g, 0, none⟩ _ w h.c0).mono ?_
    rintro e w' ⟨rfl, rfl⟩
    exact ⟨rfl, Only.refl _ _, hid h⟩
theorem u8_of (m : Nat) : IntKind.u8.wrap (m : Int) = ((m % 256 : Nat) : Int) := by simp [IntKind.wrap, IntKind.bits, IntKind.signed]
set_option maxRecDepth 100000 in
set_option maxHeartbeats 2000000 in
theorem mof_any {p : Nat → Prop} (g bs r : Nat) (l : List ByteArray) (v : Value) (W : World) (h : Mach W g 0 0 0 bs (fun _ => 0) ∨ Mach W g 1 0 1 bs Crc.step)
    (hv : Vals p W v (l.map Value.string)) (hp : ∀ b, p b → b < W.heap.size ∧ b ∉ [g]) (hn : l.length ≤ 100) (hl : ∀ s ∈ l, s.size ≤ 1000000) (hb : bs + (Crc.flat l).length ≤ 1000000000) (hr : Crc.sum (Crc.flat l) = r) :
    Calls Try.prog 62 #[.pointer (some ⟨g, 0, none⟩), v] W fun e w' => e = .returned (.int .u32 r) ∧ Only [g] W w' ∧ Hid (Mach w' g 1 0 1 ((bs + (Crc.flat l).length : Nat) : Int) Crc.step) := by
  have hdo := do_any g bs W h
  obtain ⟨a, cap, rfl, h2, h3, h4, h5⟩ := hv
  rw [List.length_map] at h2 h5 ⊢
  have H5 := hid h5
  have HL := hid hl
  have HP := hid hp
  have HR := hid hr
  clear h h5 hl hp hr
  have hmf : ∀ (fn : Fn) (first cap : Array Value) (w : World), (Instr.makeFunc fn first cap).run Try.prog w = .ok (.func fn first cap) w := fun _ _ _ _ => rfl
  go_enter Try.func62, Try.ntmps62
  go_wp2_with fail
  refine hdo.mono ?_
  rintro e w1 ⟨rfl, ho1, hm1⟩
  have HO1 := hid ho1
  clear hdo ho1
  go_wp2_with fail
  go_loopw [5, 19] (fun x i wr => ∃ k : Nat, k ≤ l.length ∧ i = .int .i64 k ∧ x = .int .u32 (Crc.fold 4294967295 (Crc.flat (l.take k))) ∧ Only [g] W wr ∧ Mach wr g 1 0 1 ((bs + (Crc.flat (l.take k)).length : Nat) : Int) Crc.step) (fun _ i _ => l.length - (intOf i).toNat)
  case atStart => exact ⟨0, Nat.zero_le _, rfl, rfl, HO1.out, hm1.out⟩
  case round =>
    obtain ⟨k, hk, rfl, rfl, ho, hm⟩ := hrel
    have HO := hid ho
    have HM := hid hm
    clear ho hm
    have hlt := Crc.fold_lt (sum := 4294967295) (by decide) (Crc.flat (l.take k))
    by_cases hk2 : k < l.length
    · obtain ⟨s, hs⟩ : ∃ s, l[k] = s := ⟨_, rfl⟩
      have hsl : s.size ≤ 1000000 := HL.out s (by rw [← hs]; exact List.getElem_mem hk2)
      have HF : Hid (Crc.flat (l.take (k + 1)) = Crc.flat (l.take k) ++ s.data.toList) := by show _ = _; rw [Crc.flat_take l k hk2, hs]
      have hle := Crc.flat_le l (k + 1)
      rw [HF.out, List.length_append] at hle
      have hsz : s.data.toList.length = s.size := Array.length_toList
      rw [hsz] at hle
      obtain ⟨b, off, ha, hpb, hc⟩ : ∃ b off, a = some ⟨b, off, none⟩ ∧ p b ∧ wr.cell? ⟨b, off + k, none⟩ = some (.string s) := by
        rcases H5.out with h0 | ⟨b, off, h1, h2, h3⟩
        · have := congrArg List.length h0; rw [List.length_map, List.length_nil] at this; omega
        · refine ⟨b, off, h1, h2, ?_⟩
          rw [HO.out.cell (p := ⟨b, off + k, none⟩) (HP.out b h2).1 (HP.out b h2).2, h3 k hk2, ← hs]
          simp [List.getD, hk2]
      subst ha
      generalize hfm : Crc.fold 4294967295 (Crc.flat (l.take k)) = m at hlt
      obtain ⟨c, hcb⟩ : ∃ c, (Crc.flat (l.take k)).length = c := ⟨_, rfl⟩
      have HFM := hid hfm
      have HC := hid hcb
      rw [hcb] at hle HM
      clear hfm hcb
      go_wp2_with fail
      go_loopw [5, 25] (fun x i wr => ∃ j : Nat, j ≤ s.size ∧ i = .int .i64 j ∧ x = .int .u32 (Crc.fold m (s.data.toList.take j)) ∧ Only [g] W wr ∧ Mach wr g 1 0 1 ((bs + c : Nat) : Int) Crc.step) (fun _ i _ => s.size - (intOf i).toNat)
      case atStart => exact ⟨0, Nat.zero_le _, rfl, rfl, HO.out, HM.out⟩
      case round =>
        clear HO HM hc
        obtain ⟨j, hj, rfl, rfl, ho, hm⟩ := hrel
        have HO := hid ho
        have HM := hid hm
        clear ho
        have hlt2 := Crc.fold_lt hlt (s.data.toList.take j)
        by_cases hj2 : j < s.size
        · have HN : Hid (Crc.fold m (s.data.toList.take (j + 1)) = (Crc.fold m (s.data.toList.take j) >>> 8) ^^^ Crc.step ((Crc.fold m (s.data.toList.take j) % 256) ^^^ (s[j]).toNat)) := by show _ = _; rw [take_snoc s j hj2, Crc.fold_snoc, Crc.step_table]
          generalize Crc.fold m (s.data.toList.take j) = y at hlt2 HN
          have hsb := (s[j]).toNat_lt
          have hq : y % 256 ^^^ (s[j]).toNat < 256 := Nat.xor_lt_two_pow (n := 8) (by omega) (by omega)
          have hx8 : bits .xor .u8 ((y : Int) % 256) ((s[j]).toNat : Int) = ((y % 256 ^^^ (s[j]).toNat : Nat) : Int) := u8_xor_nat (y % 256) _ (by omega) (by omega)
          generalize y % 256 ^^^ (s[j]).toNat = q at hq HN hx8
          have hcell := hm.tab q hq
          have hcw : ∀ x : BW wr, x.val.cell? ⟨g, 3 + q, none⟩ = some (.int .u32 (Crc.step q)) := fun x => (World.cell?_of_block (x.prop.block g hm.lt)).trans hcell
          clear hm hcell
          have hst := Crc.step_lt (n := q) (by omega)
          generalize Crc.step q = z at hcw hst HN
          have hx32 : bits .xor .u32 ((y : Int) / 256) (z : Int) = ((y / 256 ^^^ z : Nat) : Int) := Crc.xor_nat (y / 256) z (by omega) hst
          have e8 : y >>> 8 = y / 256 := by rw [Nat.shiftRight_eq_div_pow]
          rw [e8] at HN
          go_wp2_with fail
          refine wp_region_bw (by kernel_rfl) (by kernel_rfl) ?_
          repeat (go_big_quiet_step (fail))
          refine wpQuiet_nil ?_
          rintro _ ⟨⟨w3, hb3⟩, rfl⟩
          have HB3 := hid hb3
          clear hb3 hcw
          go_wp2_with fail
          go_roundw
          case rel => exact ⟨j + 1, by omega, by go_num, by rw [HN.out], HO.out.trans (Only.of_below HB3.out), HM.out.later HB3.out⟩
          case measure => simp [intOf]; omega
        · obtain rfl : j = s.size := by omega
          clear hm
          have HLD : Hid (∀ w', Only [] wr w' → Calls Try.prog 74 #[.pointer (some ⟨g, 260, none⟩)] w' fun e w'' => e = .returned (.int .i64 ((bs + c : Nat) : Int)) ∧ w' = w'') := fun w' ho => load64 _ _ w' (HM.out.only ho (by simp)).bytes
          have HIF : Hid ((if 1099511627776 < IntKind.i64.wrap ((bs : Int) + (c : Int) + (s.size : Int)) then 1099511627776 else IntKind.i64.wrap ((bs : Int) + (c : Int) + (s.size : Int))) = ((bs + c + s.size : Nat) : Int)) := by
            show _ = _
            rw [show IntKind.i64.wrap ((bs : Int) + (c : Int) + (s.size : Int)) = ((bs + c + s.size : Nat) : Int) by simp [IntKind.wrap, IntKind.bits, IntKind.signed]; omega]
            split <;> omega
          have HST : Hid (∀ w', Only [] wr w' → Calls Try.prog 102 #[.pointer (some ⟨g, 260, none⟩), .int .i64 ((bs + c + s.size : Nat) : Int)] w' fun e w'' => e = .returned (.tuple #[]) ∧ w'.setCell ⟨g, 260, none⟩ (.int .i64 ((bs + c + s.size : Nat) : Int)) = w'') := fun w' ho => store64 _ _ _ w' (HM.out.only ho (by simp)).bytes ((HM.out.only ho (by simp)).free _)
          go_wp2_with fail
          go_region_held3 (fun _ => True) (trivial)
            ((first
              | (go_at_call 74; refine (HLD.out _ (by repeat' (first | (with_reducible exact Only.refl _ _) | (with_reducible refine Only.drew ?_)))).mono ?_; rintro e w' ⟨rfl, rfl⟩)
              | (go_at_call 102; rw [HIF.out]; refine (HST.out _ (by repeat' (first | (with_reducible exact Only.refl _ _) | (with_reducible refine Only.drew ?_)))).mono ?_; rintro e w' ⟨rfl, rfl⟩)))
          have HMN : Hid (Mach (wr.setCell ⟨g, 260, none⟩ (.int .i64 ((bs : Int) + (c : Int) + (s.size : Int)))).drew g 1 0 1 ((bs : Int) + (c : Int) + (s.size : Int)) Crc.step) := hid (HM.out.bytess _).drew
          have HTS : Hid (Crc.fold m (s.data.toList.take s.size) = Crc.fold 4294967295 (Crc.flat (l.take (k + 1)))) := by
            show _ = _
            rw [HF.out, Crc.fold_append, HFM.out, List.take_of_length_le (by rw [hsz]; omega)]
          have HLN : Hid (((bs + (Crc.flat (l.take (k + 1))).length : Nat) : Int) = (bs : Int) + (c : Int) + (s.size : Int)) := by
            show _ = _
            rw [HF.out, List.length_append, HC.out, hsz]; omega
          clear hlt2
          generalize Crc.fold m (s.data.toList.take s.size) = y at HTS
          go_wp2_with fail
          go_roundw
          case rel => exact ⟨k + 1, by omega, by go_num, by rw [HTS.out], (HO.out.setCell (by simp) _).drew, by rw [HLN.out]; exact HMN.out⟩
          case measure => simp [intOf]; omega
    · obtain rfl : k = l.length := by omega
      have ht : l.take l.length = l := List.take_length
      rw [ht] at hlt HM
      have HS : Hid (Crc.sum (Crc.flat l) = 4294967295 - Crc.fold 4294967295 (Crc.flat (l.take l.length))) := by show _ = _; rw [ht]; rfl
      rw [ht] at HS ⊢
      generalize Crc.fold 4294967295 (Crc.flat l) = m at hlt HS
      have hn := Crc.not_nat m hlt
      go_wp2_with fail
      go_ret
      exact ⟨by rw [← HR.out, HS.out]; rfl, HO.out, HM⟩
end C03
end Go.Proofs.Ythmopkaecbebpaa
