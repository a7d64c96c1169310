/- Walk of layer 6 (ids): the law on what is drawn; no condition. -/
import Derived.Test.YtnmfdkkdnaeikaaK06
import Derived.Test.YtnmfdkkdnaeikaaA21
namespace Go.Peri
open Go.RowKit
theorem nats_of_arg {w : World} {B : Nat} {v : Value} (h : Arg w B (.slice 8 (.int .u64)) v) : ∃ zs : List Nat, IsVals B w v (zs.map fun (d : Nat) => Value.int .u64 (d : Int)) ∧ zs.length * 8 ≤ 140737488351232 ∧ ∀ z ∈ zs, z < 18446744073709551616 := by
  obtain ⟨vs, hv, hl, hr⟩ := ones_of_arg (e := .int .u64) rfl h
  have hel : ∀ x ∈ vs, ∃ n : Nat, x = .int .u64 n ∧ n < 18446744073709551616 := by
    intro x hx
    obtain ⟨i, hi, rfl⟩ := List.getElem_of_mem hx
    obtain ⟨n, e, hw⟩ := hr i hi
    have e2 : vs.getD i undef = vs[i] := by simp [hi]
    rw [e2] at e
    have e3 := List.singleton_inj.1 e
    have h3 : IntKind.u64.min ≤ n ∧ n ≤ IntKind.u64.max := by simpa [Lit.wf] using hw
    obtain ⟨h1, h2⟩ : 0 ≤ n ∧ n ≤ 18446744073709551615 := h3
    exact ⟨n.toNat, by rw [e3, Int.toNat_of_nonneg h1], by omega⟩
  have hmap : (vs.map (fun v => match v with | .int _ n => n.toNat | _ => 0)).map (fun (d : Nat) => Value.int .u64 (d : Int)) = vs := by
    rw [List.map_map]
    conv => rhs; rw [← List.map_id vs]
    refine List.map_congr_left fun x hx => ?_
    obtain ⟨n, rfl, _⟩ := hel x hx
    simp
  refine ⟨vs.map (fun v => match v with | .int _ n => n.toNat | _ => 0), by rw [hmap]; exact hv, by rw [List.length_map]; exact hl, fun z hz => ?_⟩
  obtain ⟨x, hx, rfl⟩ := List.mem_map.1 hz
  obtain ⟨n, rfl, hn⟩ := hel x hx
  simpa using hn
end Go.Peri
namespace Go.Proofs.Ytnmfdkkdnaeikaa
open Go.RowKit Go.Peri
namespace C06
open C01

theorem rat_val2 {B : Nat} (v : Value) (zs : List Nat) (n : Int) (r : Nat) (w : World) (h : IsVals B w v (natVals zs)) (hn : -9223372036854775808 ≤ n ∧ n ≤ 9223372036854775807) (hr : atR zs n = r) : Calls Try.prog 63 #[v, .int .i64 n] w fun e w' => e = .returned (.int .u64 r) ∧ w = w' := by
  have := rat_any v zs n w h hn; rw [hr] at this; exact this
theorem rdist_val {B : Nat} (v : Value) (zs : List Nat) (n : Int) (b : Bool) (W : World) (h : IsVals B W v (natVals zs)) (hn : -9223372036854775808 ≤ n) (hr : distR zs n = b) :
    Calls Try.prog 65 #[v, .int .i64 n] W fun e w' => e = .returned (.bool b) ∧ W = w' := by
  have := rdist_any v zs n W h hn; rw [hr] at this; exact this

set_option maxRecDepth 100000 in
theorem drawn_walk (v : Value) (zs : List Nat) (n : Int) (W : World) (h : IsVals W.heap.size W v (natVals zs)) (hz : Hid (∀ z ∈ zs, z < 18446744073709551616)) (hn : -9223372036854775808 ≤ n ∧ n ≤ 9223372036854775807) :
    Calls Try.prog 15 #[v, .int .i64 n] W fun e w' => e = .returned (.bool true) ∧ Below W.heap.size W w' := by
  have HV := hid h
  have HN := hid hn
  obtain ⟨a, cap, rfl, hc, hm, _⟩ := nats_parts h
  clear h hn
  by_cases h60 : 60 < zs.length
  · go_enter Try.func15, Try.ntmps15
    go_wp2_with fail
    refine (known_any _).mono ?_
    rintro e w1 ⟨rfl, hb1⟩
    have HB1 := hid hb1
    clear hb1
    go_wp2_with fail
    go_ret
    exact ⟨rfl, HB1.out⟩
  by_cases h200 : 200 < n
  · go_enter Try.func15, Try.ntmps15
    go_wp2_with fail
    refine (known_any _).mono ?_
    rintro e w1 ⟨rfl, hb1⟩
    have HB1 := hid hb1
    clear hb1
    go_wp2_with fail
    go_ret
    exact ⟨rfl, HB1.out⟩
  obtain ⟨r, hr⟩ : ∃ r, atR zs n = r := ⟨_, rfl⟩
  obtain ⟨b, hd⟩ : ∃ b, distR zs n = b := ⟨_, rfl⟩
  have HR := hid hr
  have HD := hid hd
  clear hr hd
  go_enter Try.func15, Try.ntmps15
  go_wp2_with fail
  refine (at_val _ zs n r _ HV.out HN.out HR.out).mono ?_
  rintro e w1 ⟨rfl, rfl⟩
  go_wp2_with fail
  refine (rat_val2 _ zs n r _ HV.out HN.out HR.out).mono ?_
  rintro e w1 ⟨rfl, rfl⟩
  go_wp2_with fail
  refine (dist_val _ zs n b _ HV.out hz HN.out.1 HD.out).mono ?_
  rintro e w1 ⟨rfl, hb1⟩
  have HV1 := hid (HV.out.below hb1)
  have HB1 := hid hb1
  clear hb1
  go_wp2_with fail
  refine (rdist_val _ zs n b _ HV1.out HN.out.1 HD.out).mono ?_
  rintro e w2 ⟨rfl, rfl⟩
  go_wp2_with fail
  refine (known_any _).mono ?_
  rintro e w2 ⟨rfl, hb2⟩
  have HB2 := hid (HB1.out.trans (hb2.mono HB1.out.size))
  clear hb2
  go_wp2_with fail
  go_ret
  exact ⟨rfl, HB2.out⟩
end C06
end Go.Proofs.Ytnmfdkkdnaeikaa
