/- Walks of layer 25 (buffer): the reference's Put, whatever there is; what the law BufferPlays keeps; no condition. -/
import Derived.Test.YtefaegoajjcfjaaR25
namespace Go.Proofs.Ytefaegoajjcfjaa
open Go.RowKit Go.Peri
namespace C25
def RPutAny (p : Nat → Prop) (room : Int) (pr : List Sp × Int) (ok : Bool) (w : World) (e : Ending) (w' : World) : Prop :=
  ∃ a cap, e = .returned (.tuple #[.agg #[.int .i64 room, .slice a pr.1.length cap, .int .i64 pr.2], .bool ok]) ∧ Below w.heap.size w w' ∧ Hid (RowsOf (fun b => p b ∨ (w.heap.size ≤ b ∧ b < w'.heap.size)) Sp.enc 11 w' (.slice a pr.1.length cap) pr.1)
theorem ref_put_any {p : Nat → Prop} (room : Nat) (v : Value) (l : List Sp) (lost : Int) (s : Sp) (pr : List Sp × Int) (ok : Bool) (w : World) (h : RowsOf p Sp.enc 11 w v l) (hp : ∀ b, p b → b < w.heap.size) (hf : l.length ≤ room) (hr : room ≤ 64) (hlo : 0 ≤ lost) (hhi : lost ≤ 1099511627776)
    (hpr : putR room (l, lost) s = pr) (hok : decide (l.length < room) = ok) :
    Calls Try.prog 52 #[.agg #[.int .i64 room, v, .int .i64 lost], .agg #[.int .u64 s.hi, .int .u64 s.lo, .int .u64 s.id, .int .u64 s.up, .string s.name, .int .i64 s.status, .int .i64 s.seq, .int .i64 s.kids, .bool s.shadow, .int .i64 s.start, .int .i64 s.stop]] w (RPutAny p room pr ok w) := by
  subst hpr hok
  unfold putR
  by_cases hlt : l.length < room
  · refine (ref_put_more room v l lost s w h hp hlt (by omega)).mono ?_
    rintro e w' ⟨a, cap, rfl, hb, hr⟩
    rw [if_pos hlt, decide_eq_true hlt]
    exact ⟨a, cap, rfl, hb, hr.out.imp (fun b hb => .inr hb)⟩
  · have h0 := h
    obtain ⟨a, cap, rfl, _⟩ := h0
    refine (ref_put_full room _ l lost s w ⟨a, cap, rfl⟩ (by omega) hlo hhi).mono ?_
    rintro e w' ⟨rfl, hb⟩
    rw [if_neg hlt, decide_eq_false hlt]
    exact ⟨a, cap, rfl, hb, (h.below hb hp).imp (fun b hb => .inl hb)⟩

def RTake2 (p : Nat → Prop) (room : Int) (l1 l2 : List Sp) (lost : Int) (w : World) (e : Ending) (w' : World) : Prop :=
  ∃ a cap a2 cap2, e = .returned (.tuple #[.agg #[.int .i64 room, .slice a l1.length cap, .int .i64 lost], .slice a2 l2.length cap2]) ∧ Below w.heap.size w w' ∧
    Hid (RowsOf p Sp.enc 11 w' (.slice a l1.length cap) l1) ∧ Hid (RowsOf p Sp.enc 11 w' (.slice a2 l2.length cap2) l2)
theorem ref_take2 {p : Nat → Prop} (room lost n : Int) (v : Value) (l l1 l2 : List Sp) (j : Nat) (w : World) (h : RowsOf p Sp.enc 11 w v l) (hp : ∀ b, p b → b < w.heap.size) (hl : l.length ≤ 1000000) (hj : takeN n l = j) (h1 : l.drop j = l1) (h2 : l.take j = l2) :
    Calls Try.prog 49 #[.agg #[.int .i64 room, v, .int .i64 lost], .int .i64 n] w (RTake2 p room l1 l2 lost w) := by
  subst h1 h2
  exact ref_take room lost n v l j w h hp hl hj
def Take2 (g : Nat) (h : Option Nat) (room : Nat) (l1 l2 : List Sp) (lost : Int) (w : World) (e : Ending) (w' : World) : Prop :=
  ∃ a cap, e = .returned (.slice a l2.length cap) ∧ Only (own g h) w w' ∧ BufIs w' g h room l1 lost ∧ Hid (RowsOf (fun b => w.heap.size ≤ b ∧ b < w'.heap.size) Sp.enc 11 w' (.slice a l2.length cap) l2)
theorem take2 (g : Nat) (h : Option Nat) (room : Nat) (l l1 l2 : List Sp) (lost : Int) (n : Int) (j : Nat) (w : World) (hb : BufIs w g h room l lost) (hj : takeN n l = j) (h1 : l.drop j = l1) (h2 : l.take j = l2) :
    Calls Try.prog 51 #[.pointer (some ⟨g, 0, none⟩), .int .i64 n] w (Take2 g h room l1 l2 lost w) := by
  subst h1 h2 hj
  refine (take_any g h room l lost n w hb).mono ?_
  rintro e w' ⟨a, cap, rfl, ho, hb', hown⟩
  exact ⟨a, cap, rfl, ho, hb', RowsOf.of_owns (e := 79) Sp.enc_length hown.out⟩

def Put2 (g : Nat) (h : Option Nat) (room : Nat) (pr : List Sp × Int) (ok : Bool) (w : World) (e : Ending) (w' : World) : Prop :=
  e = .returned (.bool ok) ∧ Only (own g h) w w' ∧ ∃ h', Moved w h h' ∧ BufIs w' g h' room pr.1 pr.2
theorem put2 (g : Nat) (h : Option Nat) (room : Nat) (l : List Sp) (lost : Int) (s : Sp) (pr : List Sp × Int) (ok : Bool) (w : World) (hb : BufIs w g h room l lost) (hpr : putR room (l, lost) s = pr) (hok : decide (l.length < room) = ok) :
    Calls Try.prog 53 #[.pointer (some ⟨g, 0, none⟩), .agg #[.int .u64 s.hi, .int .u64 s.lo, .int .u64 s.id, .int .u64 s.up, .string s.name, .int .i64 s.status, .int .i64 s.seq, .int .i64 s.kids, .bool s.shadow, .int .i64 s.start, .int .i64 s.stop]] w (Put2 g h room pr ok w) := by
  subst hpr hok
  exact put_any g h room l lost s w hb

/-- A buffer, and the reference's, side by side. -/
structure PlayQ (B g gx rm : Nat) (w : World) : Prop where
  ex : ∃ (h : Option Nat) (l : List Sp) (lost : Int) (a : Option Addr) (cap : Nat), BufIs w g h rm l lost ∧ Blk w gx #[.int .i64 rm, .slice a l.length cap, .int .i64 lost] 73 ∧
    RowsOf (fun b => B ≤ b ∧ b < w.heap.size ∧ b ∉ own g h ∧ b ≠ gx) Sp.enc 11 w (.slice a l.length cap) l ∧ gx ∉ own g h
  gx : B ≤ gx
end C25
end Go.Proofs.Ytefaegoajjcfjaa
