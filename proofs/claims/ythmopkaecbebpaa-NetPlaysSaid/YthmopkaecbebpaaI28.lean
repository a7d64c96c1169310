/- Walks of layer 28 (net): a move played on a net, and on the document's; no condition. -/
import Derived.Test.YthmopkaecbebpaaF28
import Derived.Deep.RegionHeld3
namespace Go.Peri
namespace Nt
/-- A move. -/
def step (s : Nt) (kind fr tw : Int) (bs : ByteArray) (kk : Int) : Nt := if kind = 0 then s.send fr tw bs else if kind = 1 then s.take kk else if kind = 2 then s.lose kk else s.copy kk
end Nt
theorem only_cut {x : Nat} {F : List Nat} {w w' : World} (h : Only (x :: F) w w') (hx : w.heap.size ≤ x) : Only F w w' :=
  ⟨h.os, h.tape, h.output, h.size, fun k hk hf => h.block k hk (fun hm => (List.mem_cons.1 hm).elim (fun e => by omega) hf)⟩
end Go.Peri
namespace Go.Proofs.Ythmopkaecbebpaa
open Go.RowKit Go.Peri
namespace C28
/-- What a move gives: both nets have turned alike. -/
def PlayR (g : Nat) (F : List Nat) (m : Nat) (s' : Nt) (p : Nat → Prop) (W : World) (e : Ending) (w' : World) : Prop :=
  ∃ a cap F', e = .returned (.tuple #[.agg #[.slice a s'.all.length cap, .int .i64 s'.next, .int .i64 s'.lost], .bool true]) ∧ Only F W w' ∧ Moves W.heap.size F F' ∧ NetIs w' g F' m s' ∧ RowsOf (fun b => (p b ∨ W.heap.size ≤ b) ∧ b < w'.heap.size ∧ b ∉ F') Lt.enc 4 w' (.slice a s'.all.length cap) s'.all
theorem rlose_r {p : Nat → Prop} (a : Option Addr) (cap : Nat) (s s' : Nt) (k : Int) (r : Bool) (W : World) (h : RowsOf p Lt.enc 4 W (.slice a s.all.length cap) s.all) (hp : ∀ b, p b → b < W.heap.size) (hl : s.all.length ≤ 256) (hlo : s.lost ≤ 1099511627776) (hr : s.has k = r) (hs : s.lose k = s') :
    Calls Try.prog 72 #[.agg #[.slice a s.all.length cap, .int .i64 s.next, .int .i64 s.lost], .int .i64 k] W (RQ p W s' r) := by
  subst hr
  exact rlose_any a cap s s' k W h hp hl hlo hs
theorem rtake_r {p : Nat → Prop} (a : Option Addr) (cap : Nat) (s s' : Nt) (k : Int) (x : Lt) (r : Bool) (W : World) (h : RowsOf p Lt.enc 4 W (.slice a s.all.length cap) s.all) (hp : ∀ b, p b → b < W.heap.size) (hl : s.all.length ≤ 256) (hr : s.has k = r) (hs : s.take k = s') (hx : s.takeL k = x) :
    Calls Try.prog 71 #[.agg #[.slice a s.all.length cap, .int .i64 s.next, .int .i64 s.lost], .int .i64 k] W (RTQ p W s' x r) := by
  subst hr
  exact rtake_any a cap s s' k x W h hp hl hs hx
theorem take_r (g m : Nat) (F : List Nat) (s s' : Nt) (k : Int) (x : Lt) (r : Bool) (w : World) (h : NetIs w g F m s) (hr : s.has k = r) (hs : s.take k = s') (hx : s.takeL k = x) :
    Calls Try.prog 36 #[.pointer (some ⟨g, 0, none⟩), .int .i64 k] w (TakeQ g F (m + 1) s' x r w) := by
  subst hr
  exact take_any g m F s s' k x w h hs hx
theorem lose_r (g m : Nat) (F : List Nat) (s s' : Nt) (k : Int) (r : Bool) (w : World) (h : NetIs w g F m s) (hr : s.has k = r) (hs : s.lose k = s') :
    Calls Try.prog 37 #[.pointer (some ⟨g, 0, none⟩), .int .i64 k] w fun e w' => e = .returned (.bool r) ∧ NetQ g F (m + 1) s' w w' := by
  subst hr
  exact lose_any g m F s s' k w h hs
set_option maxRecDepth 100000 in
set_option maxHeartbeats 2000000 in
theorem play0 {p : Nat → Prop} (g m : Nat) (F : List Nat) (s s' : Nt) (a : Option Addr) (cap : Nat) (kind fr tw : Int) (bs : ByteArray) (kk : Int) (W : World) (h : NetIs W g F m s) (hx : RowsOf p Lt.enc 4 W (.slice a s.all.length cap) s.all) (hp : ∀ b, p b → b < W.heap.size ∧ b ∉ F) (hm : m ≤ 100000) (hk : kind = 0) (hs : s.send fr tw bs = s') :
    Calls Try.prog 31 #[.pointer (some ⟨g, 0, none⟩), .agg #[.slice a s.all.length cap, .int .i64 s.next, .int .i64 s.lost], .agg #[.int .i64 kind, .int .i64 fr, .int .i64 tw, .string bs, .int .i64 kk]] W (PlayR g F (m + 1) s' p W) := by
  subst hk
  obtain ⟨r, hr⟩ : ∃ r, s.sendB = r := ⟨_, rfl⟩
  have HR := hid hr
  clear hr
  have hnx : s.next ≤ 100000 := Nat.le_trans h.inv.next hm
  have hlo : s.lost ≤ 1099511627776 := by obtain ⟨_, _, q⟩ := h; exact q.cap
  have hln : s.all.length ≤ 256 := h.inv.len
  have HBD := hid h.bd
  have HH := hid h
  have HRX := hid hx
  have HP := hid hp
  have HS := hid hs
  have hgW := (h.bd g h.mem).2
  clear h hx hp hs
  go_enter Try.func31, Try.ntmps31
  go_upto_region 1 with fail
  refine wpGen ?_
  intro w0 hw0
  have HB0 : Hid (Below W.heap.size W w0) := by show Below _ _ _; rw [hw0]; go_grown
  have HX0 : Hid (Blk w0 W.heap.size #[.slice a s.all.length cap, .int .i64 s.next, .int .i64 s.lost] 52) := by show Blk _ _ _ _; rw [hw0]; exact ((Blk.new _ _ _).alloc _).alloc _
  have HM0 : Hid (Blk w0 (W.heap.size + 1) #[.int .i64 0, .int .i64 fr, .int .i64 tw, .string bs, .int .i64 kk] 54) := by show Blk _ _ _ _; rw [hw0]; exact (Blk.new' _ _ _ (by simp)).alloc _
  have HR0 : Hid (Blk w0 (W.heap.size + 2) #[.slice none 0 0, .int .i64 0, .int .i64 0] 52) := by show Blk _ _ _ _; rw [hw0]; exact Blk.new' _ _ _ (by simp)
  have hs0 : W.heap.size + 3 ≤ w0.heap.size := by rw [hw0]; simp
  clear hw0
  have x0 : w0.cell? ⟨W.heap.size, 0, none⟩ = some (.slice a s.all.length cap) := HX0.out.cell 0
  have x1 : w0.cell? ⟨W.heap.size, 1, none⟩ = some (.int .i64 s.next) := HX0.out.cell 1
  have x2 : w0.cell? ⟨W.heap.size, 2, none⟩ = some (.int .i64 s.lost) := HX0.out.cell 2
  have m0 : w0.cell? ⟨W.heap.size + 1, 0, none⟩ = some (.int .i64 0) := HM0.out.cell 0
  have m1 : w0.cell? ⟨W.heap.size + 1, 1, none⟩ = some (.int .i64 fr) := HM0.out.cell 1
  have m2 : w0.cell? ⟨W.heap.size + 1, 2, none⟩ = some (.int .i64 tw) := HM0.out.cell 2
  have m3 : w0.cell? ⟨W.heap.size + 1, 3, none⟩ = some (.string bs) := HM0.out.cell 3
  have m4 : w0.cell? ⟨W.heap.size + 1, 4, none⟩ = some (.int .i64 kk) := HM0.out.cell 4
  have HX0' := hid (HRX.out.below HB0.out (fun b hb => (HP.out b hb).1))
  have HP0 : Hid (∀ b, p b → b < w0.heap.size) := fun b hb => by have := (HP.out b hb).1; omega
  go_wp2_with fail
  refine (rsend_any a cap s s' fr tw bs r w0 HX0'.out HP0.out hnx hlo HR.out HS.out).mono ?_
  rintro e w1 ⟨a1, cap1, rfl, hb1, hr1⟩
  have hs1 := hb1.size
  have HB1 := hid hb1
  clear hb1 x0 x1 x2 m0 m1 m2 m3 m4
  go_upto_region 4 with fail
  refine wpGen ?_
  intro w2 hw2
  obtain ⟨gx, hgx⟩ : ∃ g, g = w1.heap.size := ⟨_, rfl⟩
  rw [← hgx]
  have hb2 : Below w1.heap.size w1 w2 := by rw [hw2]; go_grown
  have HX2 : Hid (Blk w2 gx #[.slice a1 s'.all.length cap1, .int .i64 s'.next, .int .i64 s'.lost] 52) := by show Blk _ _ _ _; rw [hw2, hgx]; first | exact Blk.new _ _ _ | exact (Blk.new _ _ _).alloc _
  have hgx1 : w0.heap.size ≤ gx := by omega
  have hgxe : w1.heap.size ≤ gx := by omega
  have hs2 := hb2.size
  have HB02 : Hid (Below w0.heap.size w0 w2) := HB1.out.trans (hb2.mono hs1)
  have HB2 : Hid (Below W.heap.size W w2) := HB0.out.trans (HB02.out.mono (by omega))
  have HM2 := hid (HM0.out.later HB02.out)
  have HR2 := hid (HR0.out.later HB02.out)
  have HRW2 := hid (hr1.out.below hb2 (fun b hb => hb.elim (fun hb => by have := HP0.out b hb; omega) (fun hb => hb.2)))
  clear hw2 hgx hb2 hr1
  have t0 : w2.cell? ⟨W.heap.size + 2, 0, none⟩ = some (.slice none 0 0) := HR2.out.cell 0
  have t1 : w2.cell? ⟨W.heap.size + 2, 1, none⟩ = some (.int .i64 0) := HR2.out.cell 1
  have t2 : w2.cell? ⟨W.heap.size + 2, 2, none⟩ = some (.int .i64 0) := HR2.out.cell 2
  have tf0 := HR2.out.free 0
  have tf1 := HR2.out.free 1
  have tf2 := HR2.out.free 2
  have u0 : w2.cell? ⟨gx, 0, none⟩ = some (.slice a1 s'.all.length cap1) := HX2.out.cell 0
  have u1 : w2.cell? ⟨gx, 1, none⟩ = some (.int .i64 s'.next) := HX2.out.cell 1
  have u2' : w2.cell? ⟨gx, 2, none⟩ = some (.int .i64 s'.lost) := HX2.out.cell 2
  have hg2 := HX2.out.lt
  have hg3 := HR2.out.lt
  have HFR : Hid (∀ q, q ∈ F → q < W.heap.size) := fun q hq => (HBD.out q hq).2
  have FIN : Hid (∀ wf F', Only ((W.heap.size + 2) :: F) w2 wf → Moves w2.heap.size F F' → NetIs wf g F' (m + 1) s' → PlayR g F (m + 1) s' p W (Ending.returned (.tuple #[.agg #[.slice a1 s'.all.length cap1, .int .i64 s'.next, .int .i64 s'.lost], .bool true])) wf) := by
    intro wf F' ho hmv hn
    refine ⟨a1, cap1, F', rfl, only_cut ((Only.of_below HB2.out).trans ho) (by omega), hmv.le (by have := HB2.out.size; omega), hn, (HRW2.out.only ho (fun b hb => ?_)).imp (fun b hb => ?_)⟩
    · rcases hb with hb | hb
      · have h1 := HP.out b hb
        exact ⟨by omega, fun hf => (List.mem_cons.1 hf).elim (fun hf => by omega) h1.2⟩
      · exact ⟨by omega, fun hf => (List.mem_cons.1 hf).elim (fun hf => by omega) (fun hf => by have := HFR.out b hf; omega)⟩
    · have hsz := ho.size
      rcases hb with hb | hb
      · have h1 := HP.out b hb
        refine ⟨.inl hb, by omega, fun hf => ?_⟩
        rcases hmv b hf with h2 | h2
        · exact h1.2 h2
        · omega
      · refine ⟨.inr (by omega), by omega, fun hf => ?_⟩
        rcases hmv b hf with h2 | h2
        · have := HFR.out b h2; omega
        · omega
  have KEEP : Hid (∀ w', Only ((W.heap.size + 2) :: F) w2 w' → w'.cell? ⟨gx, 0, none⟩ = some (.slice a1 s'.all.length cap1) ∧ w'.cell? ⟨gx, 1, none⟩ = some (.int .i64 s'.next) ∧ w'.cell? ⟨gx, 2, none⟩ = some (.int .i64 s'.lost) ∧ w'.cell? ⟨W.heap.size + 1, 1, none⟩ = some (.int .i64 fr) ∧ w'.cell? ⟨W.heap.size + 1, 2, none⟩ = some (.int .i64 tw) ∧ w'.cell? ⟨W.heap.size + 1, 3, none⟩ = some (.string bs)) := by
    intro w' ho
    have h1 := HX2.out.only ho (fun hf => (List.mem_cons.1 hf).elim (fun hf => by omega) (fun hf => by have := HFR.out gx hf; omega))
    have h2 := HM2.out.only ho (fun hf => (List.mem_cons.1 hf).elim (fun hf => by omega) (fun hf => by have := HFR.out (W.heap.size + 1) hf; omega))
    exact ⟨h1.cell 0, h1.cell 1, h1.cell 2, h2.cell 1, h2.cell 2, h2.cell 3⟩
  have HH2 := hid (HH.out.later HB2.out)
  have CS : Hid (∀ w', Only [W.heap.size + 2] w2 w' → Calls Try.prog 35 #[.pointer (some ⟨g, 0, none⟩), .int .i64 fr, .int .i64 tw, .string bs] w' fun e w'' => e = .returned (.bool r) ∧ NetQ g F (m + 1) s' w' w'') := fun w' ho => send_any g m F s s' fr tw bs r w' (HH2.out.only ho (fun q hq hs => by have := HFR.out q hq; simp at hs; omega)) hm HR.out HS.out
  go_region_held3 (fun w' => w'.cell? ⟨gx, 0, none⟩ = some (.slice a1 s'.all.length cap1) ∧ w'.cell? ⟨gx, 1, none⟩ = some (.int .i64 s'.next) ∧ w'.cell? ⟨gx, 2, none⟩ = some (.int .i64 s'.lost) ∧ w'.cell? ⟨W.heap.size + 1, 1, none⟩ = some (.int .i64 fr) ∧ w'.cell? ⟨W.heap.size + 1, 2, none⟩ = some (.int .i64 tw) ∧ w'.cell? ⟨W.heap.size + 1, 3, none⟩ = some (.string bs))
    (first | exact KEEP.out _ (by repeat' (first | (with_reducible exact Only.refl _ _) | (with_reducible exact hq3) | (with_reducible refine Only.drew ?_) | (with_reducible refine Only.setCell ?_ (by simp) _))) | exact KEEP.out _ (by repeat' (first | (with_reducible exact Only.refl _ _) | (with_reducible refine Only.drew ?_) | (with_reducible refine Only.setCell ?_ (by simp) _))))
    ((first
      | (go_at_call 35; (with_reducible refine (CS.out w2.drew (Only.refl _ _).drew).mono ?_); rintro e w3 ⟨rfl, ho3, F', hm3, h3⟩; have hq3 : Only ((W.heap.size + 2) :: F) w2 w3 := (Only.refl _ w2).drew.trans (ho3.mono (fun q hq => List.mem_cons_of_mem _ hq)); have hr3 : Blk w3 (W.heap.size + 2) #[.slice none 0 0, .int .i64 0, .int .i64 0] 52 := HR2.out.drew.only ho3 (fun hf => by have := HFR.out _ hf; omega); have z0 : w3.cell? ⟨W.heap.size + 2, 0, none⟩ = some (.slice none 0 0) := hr3.cell 0; have z1 : w3.cell? ⟨W.heap.size + 2, 1, none⟩ = some (.int .i64 0) := hr3.cell 1; have z2 : w3.cell? ⟨W.heap.size + 2, 2, none⟩ = some (.int .i64 0) := hr3.cell 2; have zf0 := hr3.free 0; have zf1 := hr3.free 1; have zf2 := hr3.free 2; have hm3' : Moves w2.heap.size F F' := hm3.out)
      | (go_at_call 35; refine (CS.out _ (by repeat' (first | (with_reducible exact Only.refl _ _) | (with_reducible refine Only.drew ?_) | (with_reducible refine Only.setCell ?_ (by simp) _)))).mono ?_; rintro e w3 ⟨rfl, ho3, F', hm3, h3⟩; have hq3 : Only ((W.heap.size + 2) :: F) w2 w3 := ((by repeat' (first | (with_reducible exact Only.refl _ _) | (with_reducible refine Only.drew ?_) | (with_reducible refine Only.setCell ?_ (by simp) _))) : Only ((W.heap.size + 2) :: F) w2 _).trans (ho3.mono (fun q hq => List.mem_cons_of_mem _ hq)); have hr3 : Blk w3 (W.heap.size + 2) #[.slice a1 s'.all.length cap1, .int .i64 s'.next, .int .i64 s'.lost] 52 := Blk.only (((HR2.out.set 0 _).set 1 _).set 2 _).drew ho3 (fun hf => by have := HFR.out _ hf; omega); have z0 : w3.cell? ⟨W.heap.size + 2, 0, none⟩ = some (.slice a1 s'.all.length cap1) := hr3.cell 0; have z1 : w3.cell? ⟨W.heap.size + 2, 1, none⟩ = some (.int .i64 s'.next) := hr3.cell 1; have z2 : w3.cell? ⟨W.heap.size + 2, 2, none⟩ = some (.int .i64 s'.lost) := hr3.cell 2; have zf0 := hr3.free 0; have zf1 := hr3.free 1; have zf2 := hr3.free 2; have hm3' : Moves w2.heap.size F F' := fun q hq => (hm3.out q hq).imp id (fun h9 => by simpa [World.setCell] using h9))))
  all_goals
    go_wp2_with fail
    refine bodyPost_ret (by simp [results, Try.results31, go_sem, z0, z1, z2]; try rfl) rfl ?_
    refine FIN.out _ F' (by repeat' (first | (with_reducible exact Only.refl _ _) | (with_reducible exact hq3) | (with_reducible refine Only.drew ?_) | (with_reducible refine Only.setCell ?_ (by simp) _))) hm3' ?_
    first
      | exact h3.out
      | (refine h3.out.only (S := [W.heap.size + 2]) (by repeat' (first | (with_reducible exact Only.refl _ _) | (with_reducible refine Only.drew ?_) | (with_reducible refine Only.setCell ?_ (by simp) _))) (fun q hq hs => ?_)
         have := List.mem_singleton.1 hs
         rcases hm3' q hq with h9 | h9
         · have := HFR.out q h9; omega
         · omega)
set_option maxRecDepth 100000 in
set_option maxHeartbeats 2000000 in
theorem play2 {p : Nat → Prop} (g m : Nat) (F : List Nat) (s s' : Nt) (a : Option Addr) (cap : Nat) (kind fr tw : Int) (bs : ByteArray) (kk : Int) (W : World) (h : NetIs W g F m s) (hx : RowsOf p Lt.enc 4 W (.slice a s.all.length cap) s.all) (hp : ∀ b, p b → b < W.heap.size ∧ b ∉ F) (hm : m ≤ 100000) (hk : kind = 2) (hs : s.lose kk = s') :
    Calls Try.prog 31 #[.pointer (some ⟨g, 0, none⟩), .agg #[.slice a s.all.length cap, .int .i64 s.next, .int .i64 s.lost], .agg #[.int .i64 kind, .int .i64 fr, .int .i64 tw, .string bs, .int .i64 kk]] W (PlayR g F (m + 1) s' p W) := by
  subst hk
  obtain ⟨r, hr⟩ : ∃ r, s.has kk = r := ⟨_, rfl⟩
  have HR := hid hr
  clear hr
  have hnx : s.next ≤ 100000 := Nat.le_trans h.inv.next hm
  have hlo : s.lost ≤ 1099511627776 := by obtain ⟨_, _, q⟩ := h; exact q.cap
  have hln : s.all.length ≤ 256 := h.inv.len
  have HBD := hid h.bd
  have HH := hid h
  have HRX := hid hx
  have HP := hid hp
  have HS := hid hs
  have hgW := (h.bd g h.mem).2
  clear h hx hp hs
  go_enter Try.func31, Try.ntmps31
  go_upto_region 1 with fail
  refine wpGen ?_
  intro w0 hw0
  have HB0 : Hid (Below W.heap.size W w0) := by show Below _ _ _; rw [hw0]; go_grown
  have HX0 : Hid (Blk w0 W.heap.size #[.slice a s.all.length cap, .int .i64 s.next, .int .i64 s.lost] 52) := by show Blk _ _ _ _; rw [hw0]; exact ((Blk.new _ _ _).alloc _).alloc _
  have HM0 : Hid (Blk w0 (W.heap.size + 1) #[.int .i64 2, .int .i64 fr, .int .i64 tw, .string bs, .int .i64 kk] 54) := by show Blk _ _ _ _; rw [hw0]; exact (Blk.new' _ _ _ (by simp)).alloc _
  have HR0 : Hid (Blk w0 (W.heap.size + 2) #[.slice none 0 0, .int .i64 0, .int .i64 0] 52) := by show Blk _ _ _ _; rw [hw0]; exact Blk.new' _ _ _ (by simp)
  have hs0 : W.heap.size + 3 ≤ w0.heap.size := by rw [hw0]; simp
  clear hw0
  have x0 : w0.cell? ⟨W.heap.size, 0, none⟩ = some (.slice a s.all.length cap) := HX0.out.cell 0
  have x1 : w0.cell? ⟨W.heap.size, 1, none⟩ = some (.int .i64 s.next) := HX0.out.cell 1
  have x2 : w0.cell? ⟨W.heap.size, 2, none⟩ = some (.int .i64 s.lost) := HX0.out.cell 2
  have m0 : w0.cell? ⟨W.heap.size + 1, 0, none⟩ = some (.int .i64 2) := HM0.out.cell 0
  have m1 : w0.cell? ⟨W.heap.size + 1, 1, none⟩ = some (.int .i64 fr) := HM0.out.cell 1
  have m2 : w0.cell? ⟨W.heap.size + 1, 2, none⟩ = some (.int .i64 tw) := HM0.out.cell 2
  have m3 : w0.cell? ⟨W.heap.size + 1, 3, none⟩ = some (.string bs) := HM0.out.cell 3
  have m4 : w0.cell? ⟨W.heap.size + 1, 4, none⟩ = some (.int .i64 kk) := HM0.out.cell 4
  have HX0' := hid (HRX.out.below HB0.out (fun b hb => (HP.out b hb).1))
  have HP0 : Hid (∀ b, p b → b < w0.heap.size) := fun b hb => by have := (HP.out b hb).1; omega
  go_wp2_with fail
  refine (rlose_r a cap s s' kk r w0 HX0'.out HP0.out hln hlo HR.out HS.out).mono ?_
  rintro e w1 ⟨a1, cap1, rfl, hb1, hr1⟩
  have hs1 := hb1.size
  have HB1 := hid hb1
  clear hb1 x0 x1 x2 m0 m1 m2 m3 m4
  go_upto_region 11 with fail
  refine wpGen ?_
  intro w2 hw2
  obtain ⟨gx, hgx⟩ : ∃ g, g = w1.heap.size := ⟨_, rfl⟩
  rw [← hgx]
  have hb2 : Below w1.heap.size w1 w2 := by rw [hw2]; go_grown
  have HX2 : Hid (Blk w2 gx #[.slice a1 s'.all.length cap1, .int .i64 s'.next, .int .i64 s'.lost] 52) := by show Blk _ _ _ _; rw [hw2, hgx]; first | exact Blk.new _ _ _ | exact (Blk.new _ _ _).alloc _
  have hgx1 : w0.heap.size ≤ gx := by omega
  have hgxe : w1.heap.size ≤ gx := by omega
  have hs2 := hb2.size
  have HB02 : Hid (Below w0.heap.size w0 w2) := HB1.out.trans (hb2.mono hs1)
  have HB2 : Hid (Below W.heap.size W w2) := HB0.out.trans (HB02.out.mono (by omega))
  have HM2 := hid (HM0.out.later HB02.out)
  have HR2 := hid (HR0.out.later HB02.out)
  have HRW2 := hid (hr1.out.below hb2 (fun b hb => hb.elim (fun hb => by have := HP0.out b hb; omega) (fun hb => hb.2)))
  clear hw2 hgx hb2 hr1
  have t0 : w2.cell? ⟨W.heap.size + 2, 0, none⟩ = some (.slice none 0 0) := HR2.out.cell 0
  have t1 : w2.cell? ⟨W.heap.size + 2, 1, none⟩ = some (.int .i64 0) := HR2.out.cell 1
  have t2 : w2.cell? ⟨W.heap.size + 2, 2, none⟩ = some (.int .i64 0) := HR2.out.cell 2
  have tf0 := HR2.out.free 0
  have tf1 := HR2.out.free 1
  have tf2 := HR2.out.free 2
  have u0 : w2.cell? ⟨gx, 0, none⟩ = some (.slice a1 s'.all.length cap1) := HX2.out.cell 0
  have u1 : w2.cell? ⟨gx, 1, none⟩ = some (.int .i64 s'.next) := HX2.out.cell 1
  have u2' : w2.cell? ⟨gx, 2, none⟩ = some (.int .i64 s'.lost) := HX2.out.cell 2
  have hg2 := HX2.out.lt
  have hg3 := HR2.out.lt
  have HFR : Hid (∀ q, q ∈ F → q < W.heap.size) := fun q hq => (HBD.out q hq).2
  have FIN : Hid (∀ wf F', Only ((W.heap.size + 2) :: F) w2 wf → Moves w2.heap.size F F' → NetIs wf g F' (m + 1) s' → PlayR g F (m + 1) s' p W (Ending.returned (.tuple #[.agg #[.slice a1 s'.all.length cap1, .int .i64 s'.next, .int .i64 s'.lost], .bool true])) wf) := by
    intro wf F' ho hmv hn
    refine ⟨a1, cap1, F', rfl, only_cut ((Only.of_below HB2.out).trans ho) (by omega), hmv.le (by have := HB2.out.size; omega), hn, (HRW2.out.only ho (fun b hb => ?_)).imp (fun b hb => ?_)⟩
    · rcases hb with hb | hb
      · have h1 := HP.out b hb
        exact ⟨by omega, fun hf => (List.mem_cons.1 hf).elim (fun hf => by omega) h1.2⟩
      · exact ⟨by omega, fun hf => (List.mem_cons.1 hf).elim (fun hf => by omega) (fun hf => by have := HFR.out b hf; omega)⟩
    · have hsz := ho.size
      rcases hb with hb | hb
      · have h1 := HP.out b hb
        refine ⟨.inl hb, by omega, fun hf => ?_⟩
        rcases hmv b hf with h2 | h2
        · exact h1.2 h2
        · omega
      · refine ⟨.inr (by omega), by omega, fun hf => ?_⟩
        rcases hmv b hf with h2 | h2
        · have := HFR.out b h2; omega
        · omega
  have KEEP : Hid (∀ w', Only ((W.heap.size + 2) :: F) w2 w' → w'.cell? ⟨gx, 0, none⟩ = some (.slice a1 s'.all.length cap1) ∧ w'.cell? ⟨gx, 1, none⟩ = some (.int .i64 s'.next) ∧ w'.cell? ⟨gx, 2, none⟩ = some (.int .i64 s'.lost) ∧ w'.cell? ⟨W.heap.size + 1, 4, none⟩ = some (.int .i64 kk)) := by
    intro w' ho
    have h1 := HX2.out.only ho (fun hf => (List.mem_cons.1 hf).elim (fun hf => by omega) (fun hf => by have := HFR.out gx hf; omega))
    have h2 := HM2.out.only ho (fun hf => (List.mem_cons.1 hf).elim (fun hf => by omega) (fun hf => by have := HFR.out (W.heap.size + 1) hf; omega))
    exact ⟨h1.cell 0, h1.cell 1, h1.cell 2, h2.cell 4⟩
  have HH2 := hid (HH.out.later HB2.out)
  have CS : Hid (∀ w', Only [W.heap.size + 2] w2 w' → Calls Try.prog 37 #[.pointer (some ⟨g, 0, none⟩), .int .i64 kk] w' fun e w'' => e = .returned (.bool r) ∧ NetQ g F (m + 1) s' w' w'') := fun w' ho => lose_r g m F s s' kk r w' (HH2.out.only ho (fun q hq hs => by have := HFR.out q hq; simp at hs; omega)) HR.out HS.out
  go_region_held3 (fun w' => w'.cell? ⟨gx, 0, none⟩ = some (.slice a1 s'.all.length cap1) ∧ w'.cell? ⟨gx, 1, none⟩ = some (.int .i64 s'.next) ∧ w'.cell? ⟨gx, 2, none⟩ = some (.int .i64 s'.lost) ∧ w'.cell? ⟨W.heap.size + 1, 4, none⟩ = some (.int .i64 kk))
    (first | exact KEEP.out _ (by repeat' (first | (with_reducible exact Only.refl _ _) | (with_reducible exact hq3) | (with_reducible refine Only.drew ?_) | (with_reducible refine Only.setCell ?_ (by simp) _))) | exact KEEP.out _ (by repeat' (first | (with_reducible exact Only.refl _ _) | (with_reducible refine Only.drew ?_) | (with_reducible refine Only.setCell ?_ (by simp) _))))
    ((first
      | (go_at_call 37; (with_reducible refine (CS.out w2.drew (Only.refl _ _).drew).mono ?_); rintro e w3 ⟨rfl, ho3, F', hm3, h3⟩; have hq3 : Only ((W.heap.size + 2) :: F) w2 w3 := (Only.refl _ w2).drew.trans (ho3.mono (fun q hq => List.mem_cons_of_mem _ hq)); have hr3 : Blk w3 (W.heap.size + 2) #[.slice none 0 0, .int .i64 0, .int .i64 0] 52 := HR2.out.drew.only ho3 (fun hf => by have := HFR.out _ hf; omega); have z0 : w3.cell? ⟨W.heap.size + 2, 0, none⟩ = some (.slice none 0 0) := hr3.cell 0; have z1 : w3.cell? ⟨W.heap.size + 2, 1, none⟩ = some (.int .i64 0) := hr3.cell 1; have z2 : w3.cell? ⟨W.heap.size + 2, 2, none⟩ = some (.int .i64 0) := hr3.cell 2; have zf0 := hr3.free 0; have zf1 := hr3.free 1; have zf2 := hr3.free 2; have hm3' : Moves w2.heap.size F F' := hm3.out)
      | (go_at_call 37; refine (CS.out _ (by repeat' (first | (with_reducible exact Only.refl _ _) | (with_reducible refine Only.drew ?_) | (with_reducible refine Only.setCell ?_ (by simp) _)))).mono ?_; rintro e w3 ⟨rfl, ho3, F', hm3, h3⟩; have hq3 : Only ((W.heap.size + 2) :: F) w2 w3 := ((by repeat' (first | (with_reducible exact Only.refl _ _) | (with_reducible refine Only.drew ?_) | (with_reducible refine Only.setCell ?_ (by simp) _))) : Only ((W.heap.size + 2) :: F) w2 _).trans (ho3.mono (fun q hq => List.mem_cons_of_mem _ hq)); have hr3 : Blk w3 (W.heap.size + 2) #[.slice a1 s'.all.length cap1, .int .i64 s'.next, .int .i64 s'.lost] 52 := Blk.only (((HR2.out.set 0 _).set 1 _).set 2 _).drew ho3 (fun hf => by have := HFR.out _ hf; omega); have z0 : w3.cell? ⟨W.heap.size + 2, 0, none⟩ = some (.slice a1 s'.all.length cap1) := hr3.cell 0; have z1 : w3.cell? ⟨W.heap.size + 2, 1, none⟩ = some (.int .i64 s'.next) := hr3.cell 1; have z2 : w3.cell? ⟨W.heap.size + 2, 2, none⟩ = some (.int .i64 s'.lost) := hr3.cell 2; have zf0 := hr3.free 0; have zf1 := hr3.free 1; have zf2 := hr3.free 2; have hm3' : Moves w2.heap.size F F' := fun q hq => (hm3.out q hq).imp id (fun h9 => by simpa [World.setCell] using h9))))
  all_goals
    go_wp2_with fail
    refine bodyPost_ret (by simp [results, Try.results31, go_sem, z0, z1, z2]; try rfl) rfl ?_
    refine FIN.out _ F' (by repeat' (first | (with_reducible exact Only.refl _ _) | (with_reducible exact hq3) | (with_reducible refine Only.drew ?_) | (with_reducible refine Only.setCell ?_ (by simp) _))) hm3' ?_
    first
      | exact h3.out
      | (refine h3.out.only (S := [W.heap.size + 2]) (by repeat' (first | (with_reducible exact Only.refl _ _) | (with_reducible refine Only.drew ?_) | (with_reducible refine Only.setCell ?_ (by simp) _))) (fun q hq hs => ?_)
         have := List.mem_singleton.1 hs
         rcases hm3' q hq with h9 | h9
         · have := HFR.out q h9; omega
         · omega)
set_option maxRecDepth 100000 in
set_option maxHeartbeats 2000000 in
theorem play3 {p : Nat → Prop} (g m : Nat) (F : List Nat) (s s' : Nt) (a : Option Addr) (cap : Nat) (kind fr tw : Int) (bs : ByteArray) (kk : Int) (W : World) (h : NetIs W g F m s) (hx : RowsOf p Lt.enc 4 W (.slice a s.all.length cap) s.all) (hp : ∀ b, p b → b < W.heap.size ∧ b ∉ F) (hm : m ≤ 100000) (hk0 : kind ≠ 0) (hk1 : kind ≠ 1) (hk2 : kind ≠ 2) (hs : s.copy kk = s') :
    Calls Try.prog 31 #[.pointer (some ⟨g, 0, none⟩), .agg #[.slice a s.all.length cap, .int .i64 s.next, .int .i64 s.lost], .agg #[.int .i64 kind, .int .i64 fr, .int .i64 tw, .string bs, .int .i64 kk]] W (PlayR g F (m + 1) s' p W) := by
  have hk0b : (kind == 0) = false := by simpa using hk0
  have hk1b : (kind == 1) = false := by simpa using hk1
  have hk2b : (kind == 2) = false := by simpa using hk2
  clear hk0 hk1 hk2
  obtain ⟨r, hr⟩ : ∃ r, s.copyB kk = r := ⟨_, rfl⟩
  have HR := hid hr
  clear hr
  have hnx : s.next ≤ 100000 := Nat.le_trans h.inv.next hm
  have hlo : s.lost ≤ 1099511627776 := by obtain ⟨_, _, q⟩ := h; exact q.cap
  have hln : s.all.length ≤ 256 := h.inv.len
  have HBD := hid h.bd
  have HH := hid h
  have HRX := hid hx
  have HP := hid hp
  have HS := hid hs
  have hgW := (h.bd g h.mem).2
  clear h hx hp hs
  go_enter Try.func31, Try.ntmps31
  go_upto_region 1 with fail
  refine wpGen ?_
  intro w0 hw0
  have HB0 : Hid (Below W.heap.size W w0) := by show Below _ _ _; rw [hw0]; go_grown
  have HX0 : Hid (Blk w0 W.heap.size #[.slice a s.all.length cap, .int .i64 s.next, .int .i64 s.lost] 52) := by show Blk _ _ _ _; rw [hw0]; exact ((Blk.new _ _ _).alloc _).alloc _
  have HM0 : Hid (Blk w0 (W.heap.size + 1) #[.int .i64 kind, .int .i64 fr, .int .i64 tw, .string bs, .int .i64 kk] 54) := by show Blk _ _ _ _; rw [hw0]; exact (Blk.new' _ _ _ (by simp)).alloc _
  have HR0 : Hid (Blk w0 (W.heap.size + 2) #[.slice none 0 0, .int .i64 0, .int .i64 0] 52) := by show Blk _ _ _ _; rw [hw0]; exact Blk.new' _ _ _ (by simp)
  have hs0 : W.heap.size + 3 ≤ w0.heap.size := by rw [hw0]; simp
  clear hw0
  have x0 : w0.cell? ⟨W.heap.size, 0, none⟩ = some (.slice a s.all.length cap) := HX0.out.cell 0
  have x1 : w0.cell? ⟨W.heap.size, 1, none⟩ = some (.int .i64 s.next) := HX0.out.cell 1
  have x2 : w0.cell? ⟨W.heap.size, 2, none⟩ = some (.int .i64 s.lost) := HX0.out.cell 2
  have m0 : w0.cell? ⟨W.heap.size + 1, 0, none⟩ = some (.int .i64 kind) := HM0.out.cell 0
  have m1 : w0.cell? ⟨W.heap.size + 1, 1, none⟩ = some (.int .i64 fr) := HM0.out.cell 1
  have m2 : w0.cell? ⟨W.heap.size + 1, 2, none⟩ = some (.int .i64 tw) := HM0.out.cell 2
  have m3 : w0.cell? ⟨W.heap.size + 1, 3, none⟩ = some (.string bs) := HM0.out.cell 3
  have m4 : w0.cell? ⟨W.heap.size + 1, 4, none⟩ = some (.int .i64 kk) := HM0.out.cell 4
  have HX0' := hid (HRX.out.below HB0.out (fun b hb => (HP.out b hb).1))
  have HP0 : Hid (∀ b, p b → b < w0.heap.size) := fun b hb => by have := (HP.out b hb).1; omega
  go_wp2_with fail
  refine (rcopy_any a cap s s' kk r w0 HX0'.out HP0.out hln hnx hlo HR.out HS.out).mono ?_
  rintro e w1 ⟨a1, cap1, rfl, hb1, hr1⟩
  have hs1 := hb1.size
  have HB1 := hid hb1
  clear hb1 x0 x1 x2 m0 m1 m2 m3 m4
  go_upto_region 13 with fail
  refine wpGen ?_
  intro w2 hw2
  obtain ⟨gx, hgx⟩ : ∃ g, g = w1.heap.size := ⟨_, rfl⟩
  rw [← hgx]
  have hb2 : Below w1.heap.size w1 w2 := by rw [hw2]; go_grown
  have HX2 : Hid (Blk w2 gx #[.slice a1 s'.all.length cap1, .int .i64 s'.next, .int .i64 s'.lost] 52) := by show Blk _ _ _ _; rw [hw2, hgx]; first | exact Blk.new _ _ _ | exact (Blk.new _ _ _).alloc _
  have hgx1 : w0.heap.size ≤ gx := by omega
  have hgxe : w1.heap.size ≤ gx := by omega
  have hs2 := hb2.size
  have HB02 : Hid (Below w0.heap.size w0 w2) := HB1.out.trans (hb2.mono hs1)
  have HB2 : Hid (Below W.heap.size W w2) := HB0.out.trans (HB02.out.mono (by omega))
  have HM2 := hid (HM0.out.later HB02.out)
  have HR2 := hid (HR0.out.later HB02.out)
  have HRW2 := hid (hr1.out.below hb2 (fun b hb => hb.elim (fun hb => by have := HP0.out b hb; omega) (fun hb => hb.2)))
  clear hw2 hgx hb2 hr1
  have t0 : w2.cell? ⟨W.heap.size + 2, 0, none⟩ = some (.slice none 0 0) := HR2.out.cell 0
  have t1 : w2.cell? ⟨W.heap.size + 2, 1, none⟩ = some (.int .i64 0) := HR2.out.cell 1
  have t2 : w2.cell? ⟨W.heap.size + 2, 2, none⟩ = some (.int .i64 0) := HR2.out.cell 2
  have tf0 := HR2.out.free 0
  have tf1 := HR2.out.free 1
  have tf2 := HR2.out.free 2
  have u0 : w2.cell? ⟨gx, 0, none⟩ = some (.slice a1 s'.all.length cap1) := HX2.out.cell 0
  have u1 : w2.cell? ⟨gx, 1, none⟩ = some (.int .i64 s'.next) := HX2.out.cell 1
  have u2' : w2.cell? ⟨gx, 2, none⟩ = some (.int .i64 s'.lost) := HX2.out.cell 2
  have hg2 := HX2.out.lt
  have hg3 := HR2.out.lt
  have HFR : Hid (∀ q, q ∈ F → q < W.heap.size) := fun q hq => (HBD.out q hq).2
  have FIN : Hid (∀ wf F', Only ((W.heap.size + 2) :: F) w2 wf → Moves w2.heap.size F F' → NetIs wf g F' (m + 1) s' → PlayR g F (m + 1) s' p W (Ending.returned (.tuple #[.agg #[.slice a1 s'.all.length cap1, .int .i64 s'.next, .int .i64 s'.lost], .bool true])) wf) := by
    intro wf F' ho hmv hn
    refine ⟨a1, cap1, F', rfl, only_cut ((Only.of_below HB2.out).trans ho) (by omega), hmv.le (by have := HB2.out.size; omega), hn, (HRW2.out.only ho (fun b hb => ?_)).imp (fun b hb => ?_)⟩
    · rcases hb with hb | hb
      · have h1 := HP.out b hb
        exact ⟨by omega, fun hf => (List.mem_cons.1 hf).elim (fun hf => by omega) h1.2⟩
      · exact ⟨by omega, fun hf => (List.mem_cons.1 hf).elim (fun hf => by omega) (fun hf => by have := HFR.out b hf; omega)⟩
    · have hsz := ho.size
      rcases hb with hb | hb
      · have h1 := HP.out b hb
        refine ⟨.inl hb, by omega, fun hf => ?_⟩
        rcases hmv b hf with h2 | h2
        · exact h1.2 h2
        · omega
      · refine ⟨.inr (by omega), by omega, fun hf => ?_⟩
        rcases hmv b hf with h2 | h2
        · have := HFR.out b h2; omega
        · omega
  have KEEP : Hid (∀ w', Only ((W.heap.size + 2) :: F) w2 w' → w'.cell? ⟨gx, 0, none⟩ = some (.slice a1 s'.all.length cap1) ∧ w'.cell? ⟨gx, 1, none⟩ = some (.int .i64 s'.next) ∧ w'.cell? ⟨gx, 2, none⟩ = some (.int .i64 s'.lost) ∧ w'.cell? ⟨W.heap.size + 1, 4, none⟩ = some (.int .i64 kk)) := by
    intro w' ho
    have h1 := HX2.out.only ho (fun hf => (List.mem_cons.1 hf).elim (fun hf => by omega) (fun hf => by have := HFR.out gx hf; omega))
    have h2 := HM2.out.only ho (fun hf => (List.mem_cons.1 hf).elim (fun hf => by omega) (fun hf => by have := HFR.out (W.heap.size + 1) hf; omega))
    exact ⟨h1.cell 0, h1.cell 1, h1.cell 2, h2.cell 4⟩
  have HH2 := hid (HH.out.later HB2.out)
  have CS : Hid (∀ w', Only [W.heap.size + 2] w2 w' → Calls Try.prog 38 #[.pointer (some ⟨g, 0, none⟩), .int .i64 kk] w' fun e w'' => e = .returned (.bool r) ∧ NetQ g F (m + 1) s' w' w'') := fun w' ho => copy_any g m F s s' kk r w' (HH2.out.only ho (fun q hq hs => by have := HFR.out q hq; simp at hs; omega)) hm HR.out HS.out
  go_region_held3 (fun w' => w'.cell? ⟨gx, 0, none⟩ = some (.slice a1 s'.all.length cap1) ∧ w'.cell? ⟨gx, 1, none⟩ = some (.int .i64 s'.next) ∧ w'.cell? ⟨gx, 2, none⟩ = some (.int .i64 s'.lost) ∧ w'.cell? ⟨W.heap.size + 1, 4, none⟩ = some (.int .i64 kk))
    (first | exact KEEP.out _ (by repeat' (first | (with_reducible exact Only.refl _ _) | (with_reducible exact hq3) | (with_reducible refine Only.drew ?_) | (with_reducible refine Only.setCell ?_ (by simp) _))) | exact KEEP.out _ (by repeat' (first | (with_reducible exact Only.refl _ _) | (with_reducible refine Only.drew ?_) | (with_reducible refine Only.setCell ?_ (by simp) _))))
    ((first
      | (go_at_call 38; (with_reducible refine (CS.out w2.drew (Only.refl _ _).drew).mono ?_); rintro e w3 ⟨rfl, ho3, F', hm3, h3⟩; have hq3 : Only ((W.heap.size + 2) :: F) w2 w3 := (Only.refl _ w2).drew.trans (ho3.mono (fun q hq => List.mem_cons_of_mem _ hq)); have hr3 : Blk w3 (W.heap.size + 2) #[.slice none 0 0, .int .i64 0, .int .i64 0] 52 := HR2.out.drew.only ho3 (fun hf => by have := HFR.out _ hf; omega); have z0 : w3.cell? ⟨W.heap.size + 2, 0, none⟩ = some (.slice none 0 0) := hr3.cell 0; have z1 : w3.cell? ⟨W.heap.size + 2, 1, none⟩ = some (.int .i64 0) := hr3.cell 1; have z2 : w3.cell? ⟨W.heap.size + 2, 2, none⟩ = some (.int .i64 0) := hr3.cell 2; have zf0 := hr3.free 0; have zf1 := hr3.free 1; have zf2 := hr3.free 2; have hm3' : Moves w2.heap.size F F' := hm3.out)
      | (go_at_call 38; refine (CS.out _ (by repeat' (first | (with_reducible exact Only.refl _ _) | (with_reducible refine Only.drew ?_) | (with_reducible refine Only.setCell ?_ (by simp) _)))).mono ?_; rintro e w3 ⟨rfl, ho3, F', hm3, h3⟩; have hq3 : Only ((W.heap.size + 2) :: F) w2 w3 := ((by repeat' (first | (with_reducible exact Only.refl _ _) | (with_reducible refine Only.drew ?_) | (with_reducible refine Only.setCell ?_ (by simp) _))) : Only ((W.heap.size + 2) :: F) w2 _).trans (ho3.mono (fun q hq => List.mem_cons_of_mem _ hq)); have hr3 : Blk w3 (W.heap.size + 2) #[.slice a1 s'.all.length cap1, .int .i64 s'.next, .int .i64 s'.lost] 52 := Blk.only (((HR2.out.set 0 _).set 1 _).set 2 _).drew ho3 (fun hf => by have := HFR.out _ hf; omega); have z0 : w3.cell? ⟨W.heap.size + 2, 0, none⟩ = some (.slice a1 s'.all.length cap1) := hr3.cell 0; have z1 : w3.cell? ⟨W.heap.size + 2, 1, none⟩ = some (.int .i64 s'.next) := hr3.cell 1; have z2 : w3.cell? ⟨W.heap.size + 2, 2, none⟩ = some (.int .i64 s'.lost) := hr3.cell 2; have zf0 := hr3.free 0; have zf1 := hr3.free 1; have zf2 := hr3.free 2; have hm3' : Moves w2.heap.size F F' := fun q hq => (hm3.out q hq).imp id (fun h9 => by simpa [World.setCell] using h9))))
  all_goals
    go_wp2_with fail
    refine bodyPost_ret (by simp [results, Try.results31, go_sem, z0, z1, z2]; try rfl) rfl ?_
    refine FIN.out _ F' (by repeat' (first | (with_reducible exact Only.refl _ _) | (with_reducible exact hq3) | (with_reducible refine Only.drew ?_) | (with_reducible refine Only.setCell ?_ (by simp) _))) hm3' ?_
    first
      | exact h3.out
      | (refine h3.out.only (S := [W.heap.size + 2]) (by repeat' (first | (with_reducible exact Only.refl _ _) | (with_reducible refine Only.drew ?_) | (with_reducible refine Only.setCell ?_ (by simp) _))) (fun q hq hs => ?_)
         have := List.mem_singleton.1 hs
         rcases hm3' q hq with h9 | h9
         · have := HFR.out q h9; omega
         · omega)
set_option maxRecDepth 100000 in
set_option maxHeartbeats 2000000 in
theorem play1 {p : Nat → Prop} (g m : Nat) (F : List Nat) (s s' : Nt) (a : Option Addr) (cap : Nat) (kind fr tw : Int) (bs : ByteArray) (kk : Int) (W : World) (h : NetIs W g F m s) (hx : RowsOf p Lt.enc 4 W (.slice a s.all.length cap) s.all) (hp : ∀ b, p b → b < W.heap.size ∧ b ∉ F) (hm : m ≤ 100000) (hk : kind = 1) (hs : s.take kk = s') :
    Calls Try.prog 31 #[.pointer (some ⟨g, 0, none⟩), .agg #[.slice a s.all.length cap, .int .i64 s.next, .int .i64 s.lost], .agg #[.int .i64 kind, .int .i64 fr, .int .i64 tw, .string bs, .int .i64 kk]] W (PlayR g F (m + 1) s' p W) := by
  subst hk
  obtain ⟨r, hr⟩ : ∃ r, s.has kk = r := ⟨_, rfl⟩
  have HR := hid hr
  clear hr
  obtain ⟨x, hx1⟩ : ∃ x, s.takeL kk = x := ⟨_, rfl⟩
  have HX1 := hid hx1
  clear hx1
  have hee := eqLt x x
  rw [decide_eq_true rfl] at hee
  have hnx : s.next ≤ 100000 := Nat.le_trans h.inv.next hm
  have hlo : s.lost ≤ 1099511627776 := by obtain ⟨_, _, q⟩ := h; exact q.cap
  have hln : s.all.length ≤ 256 := h.inv.len
  have HBD := hid h.bd
  have HH := hid h
  have HRX := hid hx
  have HP := hid hp
  have HS := hid hs
  have hgW := (h.bd g h.mem).2
  clear h hx hp hs
  go_enter Try.func31, Try.ntmps31
  go_upto_region 1 with fail
  refine wpGen ?_
  intro w0 hw0
  have HB0 : Hid (Below W.heap.size W w0) := by show Below _ _ _; rw [hw0]; go_grown
  have HX0 : Hid (Blk w0 W.heap.size #[.slice a s.all.length cap, .int .i64 s.next, .int .i64 s.lost] 52) := by show Blk _ _ _ _; rw [hw0]; exact ((Blk.new _ _ _).alloc _).alloc _
  have HM0 : Hid (Blk w0 (W.heap.size + 1) #[.int .i64 1, .int .i64 fr, .int .i64 tw, .string bs, .int .i64 kk] 54) := by show Blk _ _ _ _; rw [hw0]; exact (Blk.new' _ _ _ (by simp)).alloc _
  have HR0 : Hid (Blk w0 (W.heap.size + 2) #[.slice none 0 0, .int .i64 0, .int .i64 0] 52) := by show Blk _ _ _ _; rw [hw0]; exact Blk.new' _ _ _ (by simp)
  have hs0 : W.heap.size + 3 ≤ w0.heap.size := by rw [hw0]; simp
  clear hw0
  have x0 : w0.cell? ⟨W.heap.size, 0, none⟩ = some (.slice a s.all.length cap) := HX0.out.cell 0
  have x1 : w0.cell? ⟨W.heap.size, 1, none⟩ = some (.int .i64 s.next) := HX0.out.cell 1
  have x2 : w0.cell? ⟨W.heap.size, 2, none⟩ = some (.int .i64 s.lost) := HX0.out.cell 2
  have m0 : w0.cell? ⟨W.heap.size + 1, 0, none⟩ = some (.int .i64 1) := HM0.out.cell 0
  have m1 : w0.cell? ⟨W.heap.size + 1, 1, none⟩ = some (.int .i64 fr) := HM0.out.cell 1
  have m2 : w0.cell? ⟨W.heap.size + 1, 2, none⟩ = some (.int .i64 tw) := HM0.out.cell 2
  have m3 : w0.cell? ⟨W.heap.size + 1, 3, none⟩ = some (.string bs) := HM0.out.cell 3
  have m4 : w0.cell? ⟨W.heap.size + 1, 4, none⟩ = some (.int .i64 kk) := HM0.out.cell 4
  have HX0' := hid (HRX.out.below HB0.out (fun b hb => (HP.out b hb).1))
  have HP0 : Hid (∀ b, p b → b < w0.heap.size) := fun b hb => by have := (HP.out b hb).1; omega
  go_wp2_with fail
  refine (rtake_r a cap s s' kk x r w0 HX0'.out HP0.out hln HR.out HS.out HX1.out).mono ?_
  rintro e w1 ⟨a1, cap1, rfl, hb1, hr1⟩
  have hs1 := hb1.size
  have HB1 := hid hb1
  clear hb1 x0 x1 x2 m0 m1 m2 m3 m4
  go_upto_region 7 with fail
  refine wpGen ?_
  intro w2 hw2
  obtain ⟨gx, hgx⟩ : ∃ g, g = w1.heap.size := ⟨_, rfl⟩
  rw [← hgx]
  have hb2 : Below w1.heap.size w1 w2 := by rw [hw2]; go_grown
  have HX2 : Hid (Blk w2 gx #[.slice a1 s'.all.length cap1, .int .i64 s'.next, .int .i64 s'.lost] 52) := by show Blk _ _ _ _; rw [hw2, hgx]; exact (Blk.new _ _ _).alloc _
  have HL2 : Hid (Blk w2 (gx + 1) #[.int .i64 x.no, .int .i64 x.from_, .int .i64 x.to, .string x.bytes] 62) := by show Blk _ _ _ _; rw [hw2, hgx]; exact Blk.new' _ _ _ (by simp)
  have hgx1 : w0.heap.size ≤ gx := by omega
  have hgxe : w1.heap.size ≤ gx := by omega
  have hs2 := hb2.size
  have HB02 : Hid (Below w0.heap.size w0 w2) := HB1.out.trans (hb2.mono hs1)
  have HB2 : Hid (Below W.heap.size W w2) := HB0.out.trans (HB02.out.mono (by omega))
  have HM2 := hid (HM0.out.later HB02.out)
  have HR2 := hid (HR0.out.later HB02.out)
  have HRW2 := hid (hr1.out.below hb2 (fun b hb => hb.elim (fun hb => by have := HP0.out b hb; omega) (fun hb => hb.2)))
  clear hw2 hgx hb2 hr1
  have t0 : w2.cell? ⟨W.heap.size + 2, 0, none⟩ = some (.slice none 0 0) := HR2.out.cell 0
  have t1 : w2.cell? ⟨W.heap.size + 2, 1, none⟩ = some (.int .i64 0) := HR2.out.cell 1
  have t2 : w2.cell? ⟨W.heap.size + 2, 2, none⟩ = some (.int .i64 0) := HR2.out.cell 2
  have tf0 := HR2.out.free 0
  have tf1 := HR2.out.free 1
  have tf2 := HR2.out.free 2
  have u0 : w2.cell? ⟨gx, 0, none⟩ = some (.slice a1 s'.all.length cap1) := HX2.out.cell 0
  have u1 : w2.cell? ⟨gx, 1, none⟩ = some (.int .i64 s'.next) := HX2.out.cell 1
  have u2' : w2.cell? ⟨gx, 2, none⟩ = some (.int .i64 s'.lost) := HX2.out.cell 2
  have hg2 := HX2.out.lt
  have hg3 := HR2.out.lt
  have HFR : Hid (∀ q, q ∈ F → q < W.heap.size) := fun q hq => (HBD.out q hq).2
  have FIN : Hid (∀ wf F', Only ((W.heap.size + 2) :: F) w2 wf → Moves w2.heap.size F F' → NetIs wf g F' (m + 1) s' → PlayR g F (m + 1) s' p W (Ending.returned (.tuple #[.agg #[.slice a1 s'.all.length cap1, .int .i64 s'.next, .int .i64 s'.lost], .bool true])) wf) := by
    intro wf F' ho hmv hn
    refine ⟨a1, cap1, F', rfl, only_cut ((Only.of_below HB2.out).trans ho) (by omega), hmv.le (by have := HB2.out.size; omega), hn, (HRW2.out.only ho (fun b hb => ?_)).imp (fun b hb => ?_)⟩
    · rcases hb with hb | hb
      · have h1 := HP.out b hb
        exact ⟨by omega, fun hf => (List.mem_cons.1 hf).elim (fun hf => by omega) h1.2⟩
      · exact ⟨by omega, fun hf => (List.mem_cons.1 hf).elim (fun hf => by omega) (fun hf => by have := HFR.out b hf; omega)⟩
    · have hsz := ho.size
      rcases hb with hb | hb
      · have h1 := HP.out b hb
        refine ⟨.inl hb, by omega, fun hf => ?_⟩
        rcases hmv b hf with h2 | h2
        · exact h1.2 h2
        · omega
      · refine ⟨.inr (by omega), by omega, fun hf => ?_⟩
        rcases hmv b hf with h2 | h2
        · have := HFR.out b h2; omega
        · omega
  have m4 : w2.cell? ⟨W.heap.size + 1, 4, none⟩ = some (.int .i64 kk) := HM2.out.cell 4
  have hg4 := HL2.out.lt
  have HH2 := hid (HH.out.later HB2.out)
  go_wp2_with fail
  refine (take_r g m F s s' kk x r w2 HH2.out HR.out HS.out HX1.out).mono ?_
  rintro e w3 ⟨rfl, ho3, F', hm3, h3⟩
  have hs3 := ho3.size
  have hX3 := HX2.out.only ho3 (fun hf => by have := HFR.out gx hf; omega)
  have hL3 := HL2.out.only ho3 (fun hf => by have := HFR.out (gx + 1) hf; omega)
  have hR3 := HR2.out.only ho3 (fun hf => by have := HFR.out (W.heap.size + 2) hf; omega)
  have HO3 := hid ho3
  clear ho3 t0 t1 t2 tf0 tf1 tf2 u0 u1 u2' m4
  go_upto_region 8 with fail
  refine wpGen ?_
  intro w4 hw4
  obtain ⟨gy, hgy⟩ : ∃ g, g = w3.heap.size := ⟨_, rfl⟩
  rw [← hgy]
  have hb4 : Below w3.heap.size w3 w4 := by rw [hw4]; go_grown
  have hY4 : Blk w4 gy #[.int .i64 x.no, .int .i64 x.from_, .int .i64 x.to, .string x.bytes] 62 := by rw [hw4, hgy]; exact Blk.new _ _ _
  have hX4 := hX3.later hb4
  have hL4 := hL3.later hb4
  have hR4 := hR3.later hb4
  have HO4 : Hid (Only F w2 w4) := HO3.out.trans (Only.of_below hb4)
  have H4 : Hid (NetIs w4 g F' (m + 1) s') := h3.out.later hb4
  have hgy1 : w3.heap.size ≤ gy := by omega
  clear hw4 hgy hb4 hX3 hL3 hR3
  have u0 : w4.cell? ⟨gx, 0, none⟩ = some (.slice a1 s'.all.length cap1) := hX4.cell 0
  have u1 : w4.cell? ⟨gx, 1, none⟩ = some (.int .i64 s'.next) := hX4.cell 1
  have u2' : w4.cell? ⟨gx, 2, none⟩ = some (.int .i64 s'.lost) := hX4.cell 2
  have v0 : w4.cell? ⟨gx + 1, 0, none⟩ = some (.int .i64 x.no) := hL4.cell 0
  have v1 : w4.cell? ⟨gx + 1, 1, none⟩ = some (.int .i64 x.from_) := hL4.cell 1
  have v2 : w4.cell? ⟨gx + 1, 2, none⟩ = some (.int .i64 x.to) := hL4.cell 2
  have v3 : w4.cell? ⟨gx + 1, 3, none⟩ = some (.string x.bytes) := hL4.cell 3
  have y0 : w4.cell? ⟨gy, 0, none⟩ = some (.int .i64 x.no) := hY4.cell 0
  have y1 : w4.cell? ⟨gy, 1, none⟩ = some (.int .i64 x.from_) := hY4.cell 1
  have y2 : w4.cell? ⟨gy, 2, none⟩ = some (.int .i64 x.to) := hY4.cell 2
  have y3 : w4.cell? ⟨gy, 3, none⟩ = some (.string x.bytes) := hY4.cell 3
  have t0 : w4.cell? ⟨W.heap.size + 2, 0, none⟩ = some (.slice none 0 0) := hR4.cell 0
  have t1 : w4.cell? ⟨W.heap.size + 2, 1, none⟩ = some (.int .i64 0) := hR4.cell 1
  have t2 : w4.cell? ⟨W.heap.size + 2, 2, none⟩ = some (.int .i64 0) := hR4.cell 2
  have tf0 := hR4.free 0
  have tf1 := hR4.free 1
  have tf2 := hR4.free 2
  have k1 := hX4.lt
  have k2 := hL4.lt
  have k3 := hY4.lt
  have k4 := hR4.lt
  have n1 : ¬ gx = W.heap.size + 2 := by omega
  have n2 : ¬ gx + 1 = W.heap.size + 2 := by omega
  have n3 : ¬ gy = W.heap.size + 2 := by omega
  have KEEP : Hid (∀ w', Only [W.heap.size + 2] w4 w' → w'.cell? ⟨gx, 0, none⟩ = some (.slice a1 s'.all.length cap1) ∧ w'.cell? ⟨gx, 1, none⟩ = some (.int .i64 s'.next) ∧ w'.cell? ⟨gx, 2, none⟩ = some (.int .i64 s'.lost) ∧ w'.cell? ⟨gx + 1, 0, none⟩ = some (.int .i64 x.no) ∧ w'.cell? ⟨gx + 1, 1, none⟩ = some (.int .i64 x.from_) ∧ w'.cell? ⟨gx + 1, 2, none⟩ = some (.int .i64 x.to) ∧ w'.cell? ⟨gx + 1, 3, none⟩ = some (.string x.bytes) ∧ w'.cell? ⟨gy, 0, none⟩ = some (.int .i64 x.no) ∧ w'.cell? ⟨gy, 1, none⟩ = some (.int .i64 x.from_) ∧ w'.cell? ⟨gy, 2, none⟩ = some (.int .i64 x.to) ∧ w'.cell? ⟨gy, 3, none⟩ = some (.string x.bytes)) := by
    intro w' ho
    have h1 := hX4.only ho (by simp; omega)
    have h2 := hL4.only ho (by simp; omega)
    have h3 := hY4.only ho (by simp; omega)
    exact ⟨h1.cell 0, h1.cell 1, h1.cell 2, h2.cell 0, h2.cell 1, h2.cell 2, h2.cell 3, h3.cell 0, h3.cell 1, h3.cell 2, h3.cell 3⟩
  have hrr : (r == r) = true := by simp
  go_region_held3 (fun w' => w'.cell? ⟨gx, 0, none⟩ = some (.slice a1 s'.all.length cap1) ∧ w'.cell? ⟨gx, 1, none⟩ = some (.int .i64 s'.next) ∧ w'.cell? ⟨gx, 2, none⟩ = some (.int .i64 s'.lost) ∧ w'.cell? ⟨gx + 1, 0, none⟩ = some (.int .i64 x.no) ∧ w'.cell? ⟨gx + 1, 1, none⟩ = some (.int .i64 x.from_) ∧ w'.cell? ⟨gx + 1, 2, none⟩ = some (.int .i64 x.to) ∧ w'.cell? ⟨gx + 1, 3, none⟩ = some (.string x.bytes) ∧ w'.cell? ⟨gy, 0, none⟩ = some (.int .i64 x.no) ∧ w'.cell? ⟨gy, 1, none⟩ = some (.int .i64 x.from_) ∧ w'.cell? ⟨gy, 2, none⟩ = some (.int .i64 x.to) ∧ w'.cell? ⟨gy, 3, none⟩ = some (.string x.bytes)) (exact KEEP.out _ (by repeat' (first | (with_reducible exact Only.refl _ _) | (with_reducible refine Only.drew ?_) | (with_reducible refine Only.setCell ?_ (by simp) _)))) (fail)
  all_goals
    go_wp2_with fail
    refine bodyPost_ret (by simp [results, Try.results31, go_sem, t0, t1, t2]; try rfl) rfl ?_
    refine FIN.out _ F' ?_ hm3.out ?_
    · have hq4 : Only ((W.heap.size + 2) :: F) w2 w4 := HO4.out.mono (fun q hq => List.mem_cons_of_mem _ hq)
      exact (by repeat' (first | (with_reducible exact Only.refl _ _) | (with_reducible exact hq4) | (with_reducible refine Only.drew ?_) | (with_reducible refine Only.setCell ?_ (by simp) _)))
    · refine H4.out.only (S := [W.heap.size + 2]) (by repeat' (first | (with_reducible exact Only.refl _ _) | (with_reducible refine Only.drew ?_) | (with_reducible refine Only.setCell ?_ (by simp) _))) (fun q hq hs => ?_)
      have := List.mem_singleton.1 hs
      rcases hm3.out q hq with h9 | h9
      · have := HFR.out q h9; omega
      · omega
theorem play_any {p : Nat → Prop} (g m : Nat) (F : List Nat) (s s' : Nt) (a : Option Addr) (cap : Nat) (kind fr tw : Int) (bs : ByteArray) (kk : Int) (W : World) (h : NetIs W g F m s) (hx : RowsOf p Lt.enc 4 W (.slice a s.all.length cap) s.all) (hp : ∀ b, p b → b < W.heap.size ∧ b ∉ F) (hm : m ≤ 100000) (hs : s.step kind fr tw bs kk = s') :
    Calls Try.prog 31 #[.pointer (some ⟨g, 0, none⟩), .agg #[.slice a s.all.length cap, .int .i64 s.next, .int .i64 s.lost], .agg #[.int .i64 kind, .int .i64 fr, .int .i64 tw, .string bs, .int .i64 kk]] W (PlayR g F (m + 1) s' p W) := by
  unfold Nt.step at hs
  by_cases h0 : kind = 0
  · rw [if_pos h0] at hs
    exact play0 g m F s s' a cap kind fr tw bs kk W h hx hp hm h0 hs
  · rw [if_neg h0] at hs
    by_cases h1 : kind = 1
    · rw [if_pos h1] at hs
      exact play1 g m F s s' a cap kind fr tw bs kk W h hx hp hm h1 hs
    · rw [if_neg h1] at hs
      by_cases h2 : kind = 2
      · rw [if_pos h2] at hs
        exact play2 g m F s s' a cap kind fr tw bs kk W h hx hp hm h2 hs
      · rw [if_neg h2] at hs
        exact play3 g m F s s' a cap kind fr tw bs kk W h hx hp hm h0 h1 h2 hs
end C28
end Go.Proofs.Ythmopkaecbebpaa
