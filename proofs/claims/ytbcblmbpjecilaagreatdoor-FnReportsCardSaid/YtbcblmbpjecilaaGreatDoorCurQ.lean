/- What the laws of reports draw. -/
import Derived.Test.YtbcblmbpjecilaaGreatDoorCurRs
import Derived.Test.YtbcblmbpjecilaaGreatDoorCurX
namespace Go.Proofs.YtbcblmbpjecilaaGreatDoor
open Go.RowKit

/-- Lines, seen: few, and of short texts. -/
structure LinesAt (w : World) (B : Option Addr) (d : Nat) (xs : List ReportLine) : Prop where
  sees : Sees w 0 4 B xs.length (xs.flatMap ReportLine.enc)
  cap : xs.length ≤ d
  small : xs.length ≤ 14
  upto : ∀ x ∈ xs, x.upto 9223372036854775807
theorem LinesAt.next {w w' : World} {B : Option Addr} {d : Nat} {xs : List ReportLine} (h : LinesAt w B d xs) (hb : Below w.heap.size w w') : LinesAt w' B d xs := ⟨h.sees.next hb, h.cap, h.small, h.upto⟩
theorem own_cap {w : World} {base t s n c : Nat} {A : Option Addr} {xs : List Value} (h : w.ownsRow base t s (.slice A n c) n xs) : n ≤ c := by
  rcases own_open h with ⟨_, rfl, rfl, _⟩ | ⟨_, _, _, _, _, _, h2, _⟩
  · exact Nat.le_refl _
  · exact h2
def GivesDL (w : World) (e : Ending) (w' : World) : Prop := ∃ (B : Option Addr) (d : Nat) (xs : List ReportLine), e = .returned (.slice B xs.length d) ∧ LinesAt w' B d xs ∧ Below w.heap.size w w'
theorem lines_at {w' : World} {base d : Nat} {B : Option Addr} {xs : List ReportLine} (h : w'.ownsRow base 41 4 (.slice B xs.length d) xs.length (xs.flatMap ReportLine.enc)) (hl : xs.length ≤ 14) (hu : ∀ x ∈ xs, x.upto 20) : LinesAt w' B d xs :=
  ⟨(Sees.of_own h).less (Nat.zero_le _), own_cap h, hl, upto_bigR hu⟩
theorem DrawAreLines_any (A : Option Addr) (m c : Nat) (w : World) (h : CodeIn w A m) (hm : m ≤ 1000000) : Calls Tryz.prog 32 #[.slice A m c] w (GivesDL w) := by
  have U : Below w.heap.size w (w.alloc (.cells #[.slice A m c, .int .i64 0, .int .u64 0] 46)) := (Below.refl _ _).alloc (Nat.le_refl _) _
  have CC := cur_new h hm U (Nat.le_refl _) (Blk.at_ rfl)
  go_enter Tryz.func32, Tryz.ntmps32
  go_wp2_with fail
  refine (reportLines_any w.heap.size 0 _ CC (by decide)).mono ?_
  rintro e w1 ⟨B, d, xs, rfl, ow, hl, hu, c1, o1⟩
  go_wp2_with fail
  go_ret
  exact ⟨B, d, xs, rfl, lines_at ow hl hu, U.trans (o1.below (fun b (hb : b = _) => by omega) (by simp))⟩
theorem DrawSortLines_any (A : Option Addr) (m c : Nat) (w : World) (h : CodeIn w A m) (hm : m ≤ 1000000) : Calls Tryz.prog 11 #[.slice A m c] w (GivesDL w) := by
  go_enter Tryz.func11, Tryz.ntmps11
  go_wp2_with fail
  refine (DrawAreLines_any A m c w h hm).mono ?_
  rintro e w1 ⟨B, d, xs, rfl, hL, b1⟩
  go_wp2_with fail
  go_ret
  exact ⟨B, d, xs, rfl, hL, b1⟩
def GivesDC (w : World) (e : Ending) (w' : World) : Prop := ∃ (B : Option Addr) (d : Nat) (xs : List ReportLine) (club : ByteArray) (best : Int), e = .returned (.tuple #[.slice B xs.length d, .string club, .int .i64 best]) ∧ (0 ≤ best ∧ best ≤ 13) ∧ LinesAt w' B d xs ∧ Below w.heap.size w w'
def GivesDR (w : World) (e : Ending) (w' : World) : Prop := ∃ x : ReportLine, e = .returned (.agg #[.string x.name, .string x.club, .int .i64 x.status, .int .i64 x.time]) ∧ x.upto 9223372036854775807 ∧ Below w.heap.size w w'
end Go.Proofs.YtbcblmbpjecilaaGreatDoor
