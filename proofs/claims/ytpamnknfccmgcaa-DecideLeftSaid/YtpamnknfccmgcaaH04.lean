/- Walks of layer 4 (head): headers without some names, with just one of a name; no condition. -/
import Derived.Test.YtpamnknfccmgcaaG04
import Derived.Deep.DrawnRows
namespace Go.Proofs.Ytpamnknfccmgcaa
open Go.RowKit Go.Peri
namespace C04
set_option maxRecDepth 100000 in
theorem delete_any {pn : Nat → Prop} (base : Nat) (v : Value) (l : List Hd) (ns : List ByteArray) (vn : Value) (B : Nat) (W : World) (h : W.ownsRow base 131 2 v l.length (l.flatMap Hd.enc)) (hl : l.length ≤ 1000000) (hB : B < W.heap.size) (hBg : B < base) (hc : W.cell? ⟨B, 0, none⟩ = some vn)
    (hr : RowsOf pn sEnc 1 W vn ns) (hpn : ∀ b, pn b → b < W.heap.size ∧ b < base) (hln : ns.length ≤ 1000000000000) :
    Calls Try.prog 122 #[v, .func (.func 123) #[] #[.pointer (some ⟨B, 0, none⟩)]] W fun e w' => ∃ a cap S, e = .returned (.slice a (Hd.outR l ns).length cap) ∧ Only S W w' ∧ (∀ k, k ∈ S → base ≤ k) ∧ Hid (w'.ownsRow base 131 2 (.slice a (Hd.outR l ns).length cap) (Hd.outR l ns).length ((Hd.outR l ns).flatMap Hd.enc)) := by
  by_cases hx : Hd.ixN l ns < l.length
  · obtain ⟨a, cap, e⟩ := owns_form h
    subst e
    have hb := owns_bd h
    have : ∃ g, a = some ⟨g, 0, none⟩ := by
      rcases h.2 with ⟨_, h9⟩ | ⟨gg, cp, cur, e9, _⟩
      · omega
      · cases e9; exact ⟨gg, rfl⟩
    obtain ⟨g, rfl⟩ := this
    have hg := hb g (by simp [blocks, Value.ownBlock])
    refine (delete_hit base g cap l ns vn B W h hl hB (by omega) hc hr (fun b hb => ⟨(hpn b hb).1, by have := (hpn b hb).2; omega⟩) hln hx).mono ?_
    rintro e w' ⟨rfl, ho, hown⟩
    exact ⟨_, _, [g], rfl, ho, by simpa using hg.1, hown⟩
  · have HIX := hid (index_out _ l ns vn B W (RowsOf.of_owns Hd.enc_length h) (fun b hb => hb.2) (by omega) hB hc hr (fun b hb => (hpn b hb).1) hln)
    have hat : Hid (Hd.atN l ns = -1) := hid (if_neg hx)
    rw [hat.out] at HIX
    have HH := hid h
    have hout := hid (Hd.out_none hx)
    obtain ⟨a, cap, e⟩ := owns_form h
    subst e
    clear h hat hx hc hr hpn
    go_enter Try.func122, Try.ntmps122
    go_wp2_with fail
    refine HIX.out.mono ?_
    rintro e w1 ⟨rfl, hb1⟩
    have HO1 : Hid (Only [] W w1) := Only.of_below hb1
    clear hb1
    go_wp2_with fail
    go_ret
    rw [hout.out]
    exact ⟨a, cap, [], rfl, HO1.out, by simp, owns_keep HH.out HO1.out (fun k _ hk => by simp at hk)⟩

set_option maxRecDepth 100000 in
theorem without_any {p pn : Nat → Prop} (v vn : Value) (l m : List Hd) (ns : List ByteArray) (W : World) (h : RowsOf p Hd.enc 2 W v l) (hp : ∀ b, p b → b < W.heap.size) (hl : l.length ≤ 1000000) (hr : RowsOf pn sEnc 1 W vn ns) (hpn : ∀ b, pn b → b < W.heap.size) (hln : ns.length ≤ 1000000000000) (hm : Hd.outR l ns = m) :
    Calls Try.prog 45 #[v, vn] W (NewRows Hd.enc 2 131 W m) := by
  obtain ⟨an, cn, rfl⟩ := hr.form
  have HCl : Hid (Calls Try.prog 121 #[v] (W.alloc (.cells #[.slice an ns.length cn] 29)) (NewRows Hd.enc 2 131 (W.alloc (.cells #[.slice an ns.length cn] 29)) l)) :=
    clone_any v l _ (h.below (B := W.heap.size) (by go_grown) hp) (fun b hb => by have := hp b hb; simp; omega) (by omega)
  have HR := hid hr
  have HPN := hid hpn
  have HM := hid hm
  clear h hr hp hpn hm
  go_enter Try.func45, Try.ntmps45
  go_wp2_with fail
  refine HCl.out.mono ?_
  rintro e w1 ⟨a1, cap1, rfl, hb1, hown1⟩
  have hsz : (W.alloc (.cells #[.slice an ns.length cn] 29)).heap.size = W.heap.size + 1 := by simp
  rw [hsz] at hown1 hb1
  have hs1 := hb1.size
  rw [hsz] at hs1
  have hk1 : Blk w1 W.heap.size #[.slice an ns.length cn] 29 := (Blk.new W _ _).below hb1 (by omega)
  have HB1 : Hid (Below W.heap.size W w1) := Below.trans (by go_grown) (hb1.mono (by omega))
  have HDel := hid (delete_any (pn := pn) (W.heap.size + 1) _ l ns _ W.heap.size w1 hown1.out hl (by omega) (by omega) (hk1.cell 0) (HR.out.below HB1.out HPN.out) (fun b hb => by have := HPN.out b hb; omega) hln)
  clear hb1 hk1
  go_wp2_with fail
  refine HDel.out.mono ?_
  rintro e w2 ⟨a2, cap2, S, rfl, ho2, hS, hown2⟩
  rw [HM.out] at hown2 ⊢
  have HB2 : Hid (Below W.heap.size W w2) := HB1.out.trans (ho2.below (by omega) (fun k hk => by have := hS k hk; omega))
  have HO2 : Hid (w2.ownsRow W.heap.size 131 2 (.slice a2 m.length cap2) m.length (m.flatMap Hd.enc)) := hid (by
    refine ⟨hown2.out.1, hown2.out.2.imp id ?_⟩
    rintro ⟨k, cp, cur, q1, q2, q3⟩
    exact ⟨k, cp, cur, q1, by omega, q3⟩)
  clear ho2 hS hown2
  go_wp2_with fail
  go_ret
  exact ⟨a2, cap2, rfl, HB2.out, HO2.out⟩
end C04
end Go.Proofs.Ytpamnknfccmgcaa
