/- Walks of layer 11 (pred): the checks of any kind; what must come of fixed calls; no condition. -/
import Derived.Test.YtpamnknfccmgcaaT11
import Derived.Test.YtpamnknfccmgcaaX11
namespace Go.Proofs.Ytpamnknfccmgcaa
open Go.RowKit Go.Peri
namespace C11
def checkR (k : Int) (n v : ByteArray) : Int :=
  if k = 1 then (if n.size ≠ 0 then 2 else if methodOk v = true then 0 else 3)
  else if k = 2 then (if n.size ≠ 0 then 2 else if Hd.nameOk v = true then 0 else 7)
  else if k = 3 then (if n.size ≠ 0 then 2 else if pathOk v = true then 0 else 12)
  else if k = 4 then (if n.size ≠ 0 then 2 else if pathOk v = true then 0 else 12)
  else if k = 5 then (if Hd.nameOk n = true then (if Hd.valueOk v = true then 0 else 15) else 7)
  else if k = 6 then (if v.size ≠ 0 then 2 else if Hd.nameOk n = true then 0 else 7)
  else 2
theorem pcheck_any (k : Int) (n v : ByteArray) (r : Int) (W : World) (hn : n.size ≤ 1000000000000000) (hv : v.size ≤ 1000000000000000) (hr : checkR k n v = r) :
    Calls Try.prog 57 #[.agg #[.int .i64 k, .string n, .string v]] W fun e w' => e = .returned (.int .i64 r) ∧ Below W.heap.size W w' := by
  unfold checkR at hr
  by_cases h1 : k = 1
  · rw [if_pos h1] at hr
    subst h1
    exact pcheck1 n v r W hv hr
  rw [if_neg h1] at hr
  by_cases h2 : k = 2
  · rw [if_pos h2] at hr
    subst h2
    exact pcheck2 n v r W hv hr
  rw [if_neg h2] at hr
  by_cases h3 : k = 3
  · rw [if_pos h3] at hr
    subst h3
    exact pcheck3 n v r W hv hr
  rw [if_neg h3] at hr
  by_cases h4 : k = 4
  · rw [if_pos h4] at hr
    subst h4
    exact pcheck4 n v r W hv hr
  rw [if_neg h4] at hr
  by_cases h5 : k = 5
  · rw [if_pos h5] at hr
    subst h5
    exact pcheck5 n v r W hn hv hr
  rw [if_neg h5] at hr
  by_cases h6 : k = 6
  · rw [if_pos h6] at hr
    subst h6
    exact pcheck6 n v r W hn hr
  rw [if_neg h6] at hr
  subst hr
  exact pcheck0 k n v W (by omega)
theorem rcheck_any (k : Int) (n v : ByteArray) (r : Int) (W : World) (hn : n.size ≤ 1000000000000000) (hv : v.size ≤ 1000000000000000) (hr : checkR k n v = r) :
    Calls Try.prog 58 #[.agg #[.int .i64 k, .string n, .string v]] W fun e w' => e = .returned (.int .i64 r) ∧ Below W.heap.size W w' := by
  unfold checkR at hr
  by_cases h1 : k = 1
  · rw [if_pos h1] at hr
    subst h1
    exact rcheck1 n v r W hv hr
  rw [if_neg h1] at hr
  by_cases h2 : k = 2
  · rw [if_pos h2] at hr
    subst h2
    exact rcheck2 n v r W hv hr
  rw [if_neg h2] at hr
  by_cases h3 : k = 3
  · rw [if_pos h3] at hr
    subst h3
    exact rcheck3 n v r W hv hr
  rw [if_neg h3] at hr
  by_cases h4 : k = 4
  · rw [if_pos h4] at hr
    subst h4
    exact rcheck4 n v r W hv hr
  rw [if_neg h4] at hr
  by_cases h5 : k = 5
  · rw [if_pos h5] at hr
    subst h5
    exact rcheck5 n v r W hn hv hr
  rw [if_neg h5] at hr
  by_cases h6 : k = 6
  · rw [if_pos h6] at hr
    subst h6
    exact rcheck6 n v r W hn hr
  rw [if_neg h6] at hr
  subst hr
  exact rcheck0 k n v W (by omega)
def kHs : List Hd := [⟨⟨#[107]⟩, ⟨#[118]⟩⟩]
def Known : Prop := ∀ W : World, Calls Try.prog 56 #[] W fun e w' => e = .returned (.bool true) ∧ Below W.heap.size W w'
set_option maxRecDepth 100000 in
set_option maxHeartbeats 4000000 in
theorem known_any : Known := by
  intro W
  have hrow : RowsOf (· = W.heap.size) Hd.enc 2 ((W.alloc (.cells #[.string ⟨#[107]⟩, .string ⟨#[118]⟩] 131)).alloc (.cells #[.string ⟨#[71, 69, 84]⟩, .string ⟨#[97]⟩, .string ⟨#[47, 97, 98]⟩, .slice (some ⟨W.heap.size, 0, none⟩) 1 1, .string ⟨#[]⟩] 59)) (.slice (some ⟨W.heap.size, 0, none⟩) kHs.length 1) kHs := rows_of_blk (l := kHs) Hd.enc_length ((Blk.new W #[.string ⟨#[107]⟩, .string ⟨#[118]⟩] 131).alloc (.cells #[.string ⟨#[71, 69, 84]⟩, .string ⟨#[97]⟩, .string ⟨#[47, 97, 98]⟩, .slice (some ⟨W.heap.size, 0, none⟩) 1 1, .string ⟨#[]⟩] 59)) rfl (by decide)
  have HS0 : Hid (((W.alloc (.cells #[.string ⟨#[107]⟩, .string ⟨#[118]⟩] 131)).alloc (.cells #[.string ⟨#[71, 69, 84]⟩, .string ⟨#[97]⟩, .string ⟨#[47, 97, 98]⟩, .slice (some ⟨W.heap.size, 0, none⟩) 1 1, .string ⟨#[]⟩] 59)).heap.size = W.heap.size + 2) := hid (by simp)
  have HB0 : Hid (Below W.heap.size W ((W.alloc (.cells #[.string ⟨#[107]⟩, .string ⟨#[118]⟩] 131)).alloc (.cells #[.string ⟨#[71, 69, 84]⟩, .string ⟨#[97]⟩, .string ⟨#[47, 97, 98]⟩, .slice (some ⟨W.heap.size, 0, none⟩) 1 1, .string ⟨#[]⟩] 59))) := by show Below _ _ _; go_grown
  have HL : Hid (∀ w', Below ((W.alloc (.cells #[.string ⟨#[107]⟩, .string ⟨#[118]⟩] 131)).alloc (.cells #[.string ⟨#[71, 69, 84]⟩, .string ⟨#[97]⟩, .string ⟨#[47, 97, 98]⟩, .slice (some ⟨W.heap.size, 0, none⟩) 1 1, .string ⟨#[]⟩] 59)).heap.size ((W.alloc (.cells #[.string ⟨#[107]⟩, .string ⟨#[118]⟩] 131)).alloc (.cells #[.string ⟨#[71, 69, 84]⟩, .string ⟨#[97]⟩, .string ⟨#[47, 97, 98]⟩, .slice (some ⟨W.heap.size, 0, none⟩) 1 1, .string ⟨#[]⟩] 59)) w' → RowsOf (· = W.heap.size) Hd.enc 2 w' (.slice (some ⟨W.heap.size, 0, none⟩) kHs.length 1) kHs ∧ ∀ b, (b = W.heap.size) → b < w'.heap.size) := hid (fun w' hw => ⟨hrow.below hw (fun b hb => by rw [hb, HS0.out]; omega), fun b hb => by rw [hb]; have := hw.size; rw [HS0.out] at this; omega⟩)
  have HY := hid (Blk.new' (W.alloc (.cells #[.string ⟨#[107]⟩, .string ⟨#[118]⟩] 131)) #[.string ⟨#[71, 69, 84]⟩, .string ⟨#[97]⟩, .string ⟨#[47, 97, 98]⟩, .slice (some ⟨W.heap.size, 0, none⟩) 1 1, .string ⟨#[]⟩] 59 (n := W.heap.size + 1) (by simp))
  have KEEP : Hid (∀ w', Below ((W.alloc (.cells #[.string ⟨#[107]⟩, .string ⟨#[118]⟩] 131)).alloc (.cells #[.string ⟨#[71, 69, 84]⟩, .string ⟨#[97]⟩, .string ⟨#[47, 97, 98]⟩, .slice (some ⟨W.heap.size, 0, none⟩) 1 1, .string ⟨#[]⟩] 59)).heap.size ((W.alloc (.cells #[.string ⟨#[107]⟩, .string ⟨#[118]⟩] 131)).alloc (.cells #[.string ⟨#[71, 69, 84]⟩, .string ⟨#[97]⟩, .string ⟨#[47, 97, 98]⟩, .slice (some ⟨W.heap.size, 0, none⟩) 1 1, .string ⟨#[]⟩] 59)) w' → w'.cell? ⟨W.heap.size + 1, 0, none⟩ = some (.string ⟨#[71, 69, 84]⟩) ∧ w'.cell? ⟨W.heap.size + 1, 1, none⟩ = some (.string ⟨#[97]⟩) ∧ w'.cell? ⟨W.heap.size + 1, 2, none⟩ = some (.string ⟨#[47, 97, 98]⟩) ∧ w'.cell? ⟨W.heap.size + 1, 3, none⟩ = some (.slice (some ⟨W.heap.size, 0, none⟩) 1 1) ∧ w'.cell? ⟨W.heap.size + 1, 4, none⟩ = some (.string ⟨#[]⟩) ∧ W.heap.size + 1 < w'.heap.size) :=
    hid (fun w' hw => ⟨(HY.out.later hw).cell 0, (HY.out.later hw).cell 1, (HY.out.later hw).cell 2, (HY.out.later hw).cell 3, (HY.out.later hw).cell 4, (HY.out.later hw).lt⟩)
  have H0 : Hid (∀ w', Below ((W.alloc (.cells #[.string ⟨#[107]⟩, .string ⟨#[118]⟩] 131)).alloc (.cells #[.string ⟨#[71, 69, 84]⟩, .string ⟨#[97]⟩, .string ⟨#[47, 97, 98]⟩, .slice (some ⟨W.heap.size, 0, none⟩) 1 1, .string ⟨#[]⟩] 59)).heap.size ((W.alloc (.cells #[.string ⟨#[107]⟩, .string ⟨#[118]⟩] 131)).alloc (.cells #[.string ⟨#[71, 69, 84]⟩, .string ⟨#[97]⟩, .string ⟨#[47, 97, 98]⟩, .slice (some ⟨W.heap.size, 0, none⟩) 1 1, .string ⟨#[]⟩] 59)) w' → Calls Try.prog 61 #[.agg #[.int .i64 4, .string ⟨#[]⟩, .string ⟨#[47, 97]⟩], .agg #[.string ⟨#[71, 69, 84]⟩, .string ⟨#[97]⟩, .string ⟨#[47, 97, 98]⟩, .slice (some ⟨W.heap.size, 0, none⟩) 1 1, .string ⟨#[]⟩]] w' fun e w'' => e = .returned (.bool true) ∧ Below w'.heap.size w' w'') := hid (fun w' hw => pmatch_any 4 ⟨#[]⟩ ⟨#[47, 97]⟩ ⟨#[71, 69, 84]⟩ ⟨#[97]⟩ ⟨#[47, 97, 98]⟩ ⟨#[]⟩ kHs _ true w' (HL.out w' hw).1 (HL.out w' hw).2 (by decide) (by decide))
  have H1 : Hid (∀ w', Below ((W.alloc (.cells #[.string ⟨#[107]⟩, .string ⟨#[118]⟩] 131)).alloc (.cells #[.string ⟨#[71, 69, 84]⟩, .string ⟨#[97]⟩, .string ⟨#[47, 97, 98]⟩, .slice (some ⟨W.heap.size, 0, none⟩) 1 1, .string ⟨#[]⟩] 59)).heap.size ((W.alloc (.cells #[.string ⟨#[107]⟩, .string ⟨#[118]⟩] 131)).alloc (.cells #[.string ⟨#[71, 69, 84]⟩, .string ⟨#[97]⟩, .string ⟨#[47, 97, 98]⟩, .slice (some ⟨W.heap.size, 0, none⟩) 1 1, .string ⟨#[]⟩] 59)) w' → Calls Try.prog 61 #[.agg #[.int .i64 3, .string ⟨#[]⟩, .string ⟨#[47, 97]⟩], .agg #[.string ⟨#[71, 69, 84]⟩, .string ⟨#[97]⟩, .string ⟨#[47, 97, 98]⟩, .slice (some ⟨W.heap.size, 0, none⟩) 1 1, .string ⟨#[]⟩]] w' fun e w'' => e = .returned (.bool false) ∧ Below w'.heap.size w' w'') := hid (fun w' hw => pmatch_any 3 ⟨#[]⟩ ⟨#[47, 97]⟩ ⟨#[71, 69, 84]⟩ ⟨#[97]⟩ ⟨#[47, 97, 98]⟩ ⟨#[]⟩ kHs _ false w' (HL.out w' hw).1 (HL.out w' hw).2 (by decide) (by decide))
  have H2 : Hid (∀ w', Below ((W.alloc (.cells #[.string ⟨#[107]⟩, .string ⟨#[118]⟩] 131)).alloc (.cells #[.string ⟨#[71, 69, 84]⟩, .string ⟨#[97]⟩, .string ⟨#[47, 97, 98]⟩, .slice (some ⟨W.heap.size, 0, none⟩) 1 1, .string ⟨#[]⟩] 59)).heap.size ((W.alloc (.cells #[.string ⟨#[107]⟩, .string ⟨#[118]⟩] 131)).alloc (.cells #[.string ⟨#[71, 69, 84]⟩, .string ⟨#[97]⟩, .string ⟨#[47, 97, 98]⟩, .slice (some ⟨W.heap.size, 0, none⟩) 1 1, .string ⟨#[]⟩] 59)) w' → Calls Try.prog 61 #[.agg #[.int .i64 5, .string ⟨#[107]⟩, .string ⟨#[118]⟩], .agg #[.string ⟨#[71, 69, 84]⟩, .string ⟨#[97]⟩, .string ⟨#[47, 97, 98]⟩, .slice (some ⟨W.heap.size, 0, none⟩) 1 1, .string ⟨#[]⟩]] w' fun e w'' => e = .returned (.bool true) ∧ Below w'.heap.size w' w'') := hid (fun w' hw => pmatch_any 5 ⟨#[107]⟩ ⟨#[118]⟩ ⟨#[71, 69, 84]⟩ ⟨#[97]⟩ ⟨#[47, 97, 98]⟩ ⟨#[]⟩ kHs _ true w' (HL.out w' hw).1 (HL.out w' hw).2 (by decide) (by decide))
  have H3 : Hid (∀ w', Below ((W.alloc (.cells #[.string ⟨#[107]⟩, .string ⟨#[118]⟩] 131)).alloc (.cells #[.string ⟨#[71, 69, 84]⟩, .string ⟨#[97]⟩, .string ⟨#[47, 97, 98]⟩, .slice (some ⟨W.heap.size, 0, none⟩) 1 1, .string ⟨#[]⟩] 59)).heap.size ((W.alloc (.cells #[.string ⟨#[107]⟩, .string ⟨#[118]⟩] 131)).alloc (.cells #[.string ⟨#[71, 69, 84]⟩, .string ⟨#[97]⟩, .string ⟨#[47, 97, 98]⟩, .slice (some ⟨W.heap.size, 0, none⟩) 1 1, .string ⟨#[]⟩] 59)) w' → Calls Try.prog 61 #[.agg #[.int .i64 6, .string ⟨#[107]⟩, .string ⟨#[]⟩], .agg #[.string ⟨#[71, 69, 84]⟩, .string ⟨#[97]⟩, .string ⟨#[47, 97, 98]⟩, .slice (some ⟨W.heap.size, 0, none⟩) 1 1, .string ⟨#[]⟩]] w' fun e w'' => e = .returned (.bool true) ∧ Below w'.heap.size w' w'') := hid (fun w' hw => pmatch_any 6 ⟨#[107]⟩ ⟨#[]⟩ ⟨#[71, 69, 84]⟩ ⟨#[97]⟩ ⟨#[47, 97, 98]⟩ ⟨#[]⟩ kHs _ true w' (HL.out w' hw).1 (HL.out w' hw).2 (by decide) (by decide))
  have H4 : Hid (∀ w', Below ((W.alloc (.cells #[.string ⟨#[107]⟩, .string ⟨#[118]⟩] 131)).alloc (.cells #[.string ⟨#[71, 69, 84]⟩, .string ⟨#[97]⟩, .string ⟨#[47, 97, 98]⟩, .slice (some ⟨W.heap.size, 0, none⟩) 1 1, .string ⟨#[]⟩] 59)).heap.size ((W.alloc (.cells #[.string ⟨#[107]⟩, .string ⟨#[118]⟩] 131)).alloc (.cells #[.string ⟨#[71, 69, 84]⟩, .string ⟨#[97]⟩, .string ⟨#[47, 97, 98]⟩, .slice (some ⟨W.heap.size, 0, none⟩) 1 1, .string ⟨#[]⟩] 59)) w' → Calls Try.prog 61 #[.agg #[.int .i64 1, .string ⟨#[]⟩, .string ⟨#[71, 69, 84]⟩], .agg #[.string ⟨#[71, 69, 84]⟩, .string ⟨#[97]⟩, .string ⟨#[47, 97, 98]⟩, .slice (some ⟨W.heap.size, 0, none⟩) 1 1, .string ⟨#[]⟩]] w' fun e w'' => e = .returned (.bool true) ∧ Below w'.heap.size w' w'') := hid (fun w' hw => pmatch_any 1 ⟨#[]⟩ ⟨#[71, 69, 84]⟩ ⟨#[71, 69, 84]⟩ ⟨#[97]⟩ ⟨#[47, 97, 98]⟩ ⟨#[]⟩ kHs _ true w' (HL.out w' hw).1 (HL.out w' hw).2 (by decide) (by decide))
  have H5 : Hid (∀ w', Below ((W.alloc (.cells #[.string ⟨#[107]⟩, .string ⟨#[118]⟩] 131)).alloc (.cells #[.string ⟨#[71, 69, 84]⟩, .string ⟨#[97]⟩, .string ⟨#[47, 97, 98]⟩, .slice (some ⟨W.heap.size, 0, none⟩) 1 1, .string ⟨#[]⟩] 59)).heap.size ((W.alloc (.cells #[.string ⟨#[107]⟩, .string ⟨#[118]⟩] 131)).alloc (.cells #[.string ⟨#[71, 69, 84]⟩, .string ⟨#[97]⟩, .string ⟨#[47, 97, 98]⟩, .slice (some ⟨W.heap.size, 0, none⟩) 1 1, .string ⟨#[]⟩] 59)) w' → Calls Try.prog 61 #[.agg #[.int .i64 2, .string ⟨#[]⟩, .string ⟨#[97]⟩], .agg #[.string ⟨#[71, 69, 84]⟩, .string ⟨#[97]⟩, .string ⟨#[47, 97, 98]⟩, .slice (some ⟨W.heap.size, 0, none⟩) 1 1, .string ⟨#[]⟩]] w' fun e w'' => e = .returned (.bool true) ∧ Below w'.heap.size w' w'') := hid (fun w' hw => pmatch_any 2 ⟨#[]⟩ ⟨#[97]⟩ ⟨#[71, 69, 84]⟩ ⟨#[97]⟩ ⟨#[47, 97, 98]⟩ ⟨#[]⟩ kHs _ true w' (HL.out w' hw).1 (HL.out w' hw).2 (by decide) (by decide))
  have H6 : Hid (∀ w', Below ((W.alloc (.cells #[.string ⟨#[107]⟩, .string ⟨#[118]⟩] 131)).alloc (.cells #[.string ⟨#[71, 69, 84]⟩, .string ⟨#[97]⟩, .string ⟨#[47, 97, 98]⟩, .slice (some ⟨W.heap.size, 0, none⟩) 1 1, .string ⟨#[]⟩] 59)).heap.size ((W.alloc (.cells #[.string ⟨#[107]⟩, .string ⟨#[118]⟩] 131)).alloc (.cells #[.string ⟨#[71, 69, 84]⟩, .string ⟨#[97]⟩, .string ⟨#[47, 97, 98]⟩, .slice (some ⟨W.heap.size, 0, none⟩) 1 1, .string ⟨#[]⟩] 59)) w' → Calls Try.prog 63 #[.slice none 0 0, .agg #[.string ⟨#[71, 69, 84]⟩, .string ⟨#[97]⟩, .string ⟨#[47, 97, 98]⟩, .slice (some ⟨W.heap.size, 0, none⟩) 1 1, .string ⟨#[]⟩]] w' fun e w'' => e = .returned (.bool true) ∧ Below w'.heap.size w' w'') := hid (fun w' hw => all_any (qq := fun _ => False) _ [] ⟨#[71, 69, 84]⟩ ⟨#[97]⟩ ⟨#[47, 97, 98]⟩ ⟨#[]⟩ kHs _ _ true w' (RowsOf.nil _ _ _ _) (fun _ h => h.elim) (HL.out w' hw).1 (HL.out w' hw).2 (by decide) (by decide) rfl)
  have H7 : Hid (∀ w', Calls Try.prog 57 #[.agg #[.int .i64 7, .string ⟨#[]⟩, .string ⟨#[]⟩]] w' fun e w'' => e = .returned (.int .i64 2) ∧ Below w'.heap.size w' w'') := hid (fun w' => pcheck_any 7 ⟨#[]⟩ ⟨#[]⟩ 2 w' (by decide) (by decide) (by decide))
  have H8 : Hid (∀ w', Calls Try.prog 57 #[.agg #[.int .i64 2, .string ⟨#[]⟩, .string ⟨#[97]⟩]] w' fun e w'' => e = .returned (.int .i64 0) ∧ Below w'.heap.size w' w'') := hid (fun w' => pcheck_any 2 ⟨#[]⟩ ⟨#[97]⟩ 0 w' (by decide) (by decide) (by decide))
  clear hrow HS0 HL HY
  go_enter Try.func56, Try.ntmps56
  go_wp2_with fail
  refine (H0.out _ (Below.refl _ _)).mono ?_
  rintro e w0 ⟨rfl, hb⟩
  have B0 : Hid (Below ((W.alloc (.cells #[.string ⟨#[107]⟩, .string ⟨#[118]⟩] 131)).alloc (.cells #[.string ⟨#[71, 69, 84]⟩, .string ⟨#[97]⟩, .string ⟨#[47, 97, 98]⟩, .slice (some ⟨W.heap.size, 0, none⟩) 1 1, .string ⟨#[]⟩] 59)).heap.size ((W.alloc (.cells #[.string ⟨#[107]⟩, .string ⟨#[118]⟩] 131)).alloc (.cells #[.string ⟨#[71, 69, 84]⟩, .string ⟨#[97]⟩, .string ⟨#[47, 97, 98]⟩, .slice (some ⟨W.heap.size, 0, none⟩) 1 1, .string ⟨#[]⟩] 59)) w0) := hid (hb)
  obtain ⟨k00, k01, k02, k03, k04, k05⟩ := KEEP.out _ B0.out
  clear hb
  go_wp2_with fail
  refine (H1.out _ B0.out).mono ?_
  rintro e w1 ⟨rfl, hb⟩
  have B1 : Hid (Below ((W.alloc (.cells #[.string ⟨#[107]⟩, .string ⟨#[118]⟩] 131)).alloc (.cells #[.string ⟨#[71, 69, 84]⟩, .string ⟨#[97]⟩, .string ⟨#[47, 97, 98]⟩, .slice (some ⟨W.heap.size, 0, none⟩) 1 1, .string ⟨#[]⟩] 59)).heap.size ((W.alloc (.cells #[.string ⟨#[107]⟩, .string ⟨#[118]⟩] 131)).alloc (.cells #[.string ⟨#[71, 69, 84]⟩, .string ⟨#[97]⟩, .string ⟨#[47, 97, 98]⟩, .slice (some ⟨W.heap.size, 0, none⟩) 1 1, .string ⟨#[]⟩] 59)) w1) := hid (B0.out.trans (hb.mono B0.out.size))
  obtain ⟨k10, k11, k12, k13, k14, k15⟩ := KEEP.out _ B1.out
  clear hb k00 k01 k02 k03 k04 k05
  go_wp2_with fail
  refine (H2.out _ B1.out).mono ?_
  rintro e w2 ⟨rfl, hb⟩
  have B2 : Hid (Below ((W.alloc (.cells #[.string ⟨#[107]⟩, .string ⟨#[118]⟩] 131)).alloc (.cells #[.string ⟨#[71, 69, 84]⟩, .string ⟨#[97]⟩, .string ⟨#[47, 97, 98]⟩, .slice (some ⟨W.heap.size, 0, none⟩) 1 1, .string ⟨#[]⟩] 59)).heap.size ((W.alloc (.cells #[.string ⟨#[107]⟩, .string ⟨#[118]⟩] 131)).alloc (.cells #[.string ⟨#[71, 69, 84]⟩, .string ⟨#[97]⟩, .string ⟨#[47, 97, 98]⟩, .slice (some ⟨W.heap.size, 0, none⟩) 1 1, .string ⟨#[]⟩] 59)) w2) := hid (B1.out.trans (hb.mono B1.out.size))
  obtain ⟨k20, k21, k22, k23, k24, k25⟩ := KEEP.out _ B2.out
  clear hb k10 k11 k12 k13 k14 k15
  go_wp2_with fail
  refine (H3.out _ B2.out).mono ?_
  rintro e w3 ⟨rfl, hb⟩
  have B3 : Hid (Below ((W.alloc (.cells #[.string ⟨#[107]⟩, .string ⟨#[118]⟩] 131)).alloc (.cells #[.string ⟨#[71, 69, 84]⟩, .string ⟨#[97]⟩, .string ⟨#[47, 97, 98]⟩, .slice (some ⟨W.heap.size, 0, none⟩) 1 1, .string ⟨#[]⟩] 59)).heap.size ((W.alloc (.cells #[.string ⟨#[107]⟩, .string ⟨#[118]⟩] 131)).alloc (.cells #[.string ⟨#[71, 69, 84]⟩, .string ⟨#[97]⟩, .string ⟨#[47, 97, 98]⟩, .slice (some ⟨W.heap.size, 0, none⟩) 1 1, .string ⟨#[]⟩] 59)) w3) := hid (B2.out.trans (hb.mono B2.out.size))
  obtain ⟨k30, k31, k32, k33, k34, k35⟩ := KEEP.out _ B3.out
  clear hb k20 k21 k22 k23 k24 k25
  go_wp2_with fail
  refine (H4.out _ B3.out).mono ?_
  rintro e w4 ⟨rfl, hb⟩
  have B4 : Hid (Below ((W.alloc (.cells #[.string ⟨#[107]⟩, .string ⟨#[118]⟩] 131)).alloc (.cells #[.string ⟨#[71, 69, 84]⟩, .string ⟨#[97]⟩, .string ⟨#[47, 97, 98]⟩, .slice (some ⟨W.heap.size, 0, none⟩) 1 1, .string ⟨#[]⟩] 59)).heap.size ((W.alloc (.cells #[.string ⟨#[107]⟩, .string ⟨#[118]⟩] 131)).alloc (.cells #[.string ⟨#[71, 69, 84]⟩, .string ⟨#[97]⟩, .string ⟨#[47, 97, 98]⟩, .slice (some ⟨W.heap.size, 0, none⟩) 1 1, .string ⟨#[]⟩] 59)) w4) := hid (B3.out.trans (hb.mono B3.out.size))
  obtain ⟨k40, k41, k42, k43, k44, k45⟩ := KEEP.out _ B4.out
  clear hb k30 k31 k32 k33 k34 k35
  go_wp2_with fail
  refine (H5.out _ B4.out).mono ?_
  rintro e w5 ⟨rfl, hb⟩
  have B5 : Hid (Below ((W.alloc (.cells #[.string ⟨#[107]⟩, .string ⟨#[118]⟩] 131)).alloc (.cells #[.string ⟨#[71, 69, 84]⟩, .string ⟨#[97]⟩, .string ⟨#[47, 97, 98]⟩, .slice (some ⟨W.heap.size, 0, none⟩) 1 1, .string ⟨#[]⟩] 59)).heap.size ((W.alloc (.cells #[.string ⟨#[107]⟩, .string ⟨#[118]⟩] 131)).alloc (.cells #[.string ⟨#[71, 69, 84]⟩, .string ⟨#[97]⟩, .string ⟨#[47, 97, 98]⟩, .slice (some ⟨W.heap.size, 0, none⟩) 1 1, .string ⟨#[]⟩] 59)) w5) := hid (B4.out.trans (hb.mono B4.out.size))
  obtain ⟨k50, k51, k52, k53, k54, k55⟩ := KEEP.out _ B5.out
  clear hb k40 k41 k42 k43 k44 k45
  go_wp2_with fail
  refine (H6.out _ B5.out).mono ?_
  rintro e w6 ⟨rfl, hb⟩
  have B6 : Hid (Below ((W.alloc (.cells #[.string ⟨#[107]⟩, .string ⟨#[118]⟩] 131)).alloc (.cells #[.string ⟨#[71, 69, 84]⟩, .string ⟨#[97]⟩, .string ⟨#[47, 97, 98]⟩, .slice (some ⟨W.heap.size, 0, none⟩) 1 1, .string ⟨#[]⟩] 59)).heap.size ((W.alloc (.cells #[.string ⟨#[107]⟩, .string ⟨#[118]⟩] 131)).alloc (.cells #[.string ⟨#[71, 69, 84]⟩, .string ⟨#[97]⟩, .string ⟨#[47, 97, 98]⟩, .slice (some ⟨W.heap.size, 0, none⟩) 1 1, .string ⟨#[]⟩] 59)) w6) := hid (B5.out.trans (hb.mono B5.out.size))
  skip
  clear hb k50 k51 k52 k53 k54 k55
  go_wp2_with fail
  refine (H7.out _).mono ?_
  rintro e w7 ⟨rfl, hb⟩
  have B7 : Hid (Below ((W.alloc (.cells #[.string ⟨#[107]⟩, .string ⟨#[118]⟩] 131)).alloc (.cells #[.string ⟨#[71, 69, 84]⟩, .string ⟨#[97]⟩, .string ⟨#[47, 97, 98]⟩, .slice (some ⟨W.heap.size, 0, none⟩) 1 1, .string ⟨#[]⟩] 59)).heap.size ((W.alloc (.cells #[.string ⟨#[107]⟩, .string ⟨#[118]⟩] 131)).alloc (.cells #[.string ⟨#[71, 69, 84]⟩, .string ⟨#[97]⟩, .string ⟨#[47, 97, 98]⟩, .slice (some ⟨W.heap.size, 0, none⟩) 1 1, .string ⟨#[]⟩] 59)) w7) := hid (B6.out.trans (hb.mono B6.out.size))
  skip
  clear hb
  go_wp2_with fail
  refine (H8.out _).mono ?_
  rintro e w8 ⟨rfl, hb⟩
  have B8 : Hid (Below ((W.alloc (.cells #[.string ⟨#[107]⟩, .string ⟨#[118]⟩] 131)).alloc (.cells #[.string ⟨#[71, 69, 84]⟩, .string ⟨#[97]⟩, .string ⟨#[47, 97, 98]⟩, .slice (some ⟨W.heap.size, 0, none⟩) 1 1, .string ⟨#[]⟩] 59)).heap.size ((W.alloc (.cells #[.string ⟨#[107]⟩, .string ⟨#[118]⟩] 131)).alloc (.cells #[.string ⟨#[71, 69, 84]⟩, .string ⟨#[97]⟩, .string ⟨#[47, 97, 98]⟩, .slice (some ⟨W.heap.size, 0, none⟩) 1 1, .string ⟨#[]⟩] 59)) w8) := hid (B7.out.trans (hb.mono B7.out.size))
  skip
  clear hb
  go_wp2_with fail
  go_ret
  exact ⟨rfl, HB0.out.trans (B8.out.mono HB0.out.size)⟩
end C11
end Go.Proofs.Ytpamnknfccmgcaa
