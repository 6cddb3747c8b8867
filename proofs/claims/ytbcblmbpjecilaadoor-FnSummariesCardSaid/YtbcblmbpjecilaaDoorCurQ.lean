/- What the laws of reports draw. -/
import Derived.Test.YtbcblmbpjecilaaDoorCurRs
import Derived.Test.YtbcblmbpjecilaaDoorCurX
namespace Go.Proofs.YtbcblmbpjecilaaDoor
open Go.RowKit

/-- Lines, seen: few, and of short texts. -/
structure LinesAt (w : World) (B : Option Addr) (d : Nat) (xs : List ReportLine) : Prop where
  sees : Sees w 0 4 B xs.length (xs.flatMap ReportLine.enc)
  cap : xs.length ≤ d
  small : xs.length ≤ 14
  upto : ∀ x ∈ xs, x.upto 9223372036854775807
theorem LinesAt.next {w w' : World} {B : Option Addr} {d : Nat} {xs : List ReportLine} (h : LinesAt w B d xs) (hb : Below w.heap.size w w') : LinesAt w' B d xs := ⟨h.sees.next hb, h.cap, h.small, h.upto⟩
theorem own_cap {w : World} {base t s n c : Nat} {A : Option Addr} {xs : List Value} (h : w.ownsRow base t s (.slice A n c) n xs) : n ≤ c := by
  rcases own_open h with ⟨_, rfl, rfl, _⟩ | ⟨_, _, _, _, _, _, h2, _⟩
  · exact Nat.le_refl _
  · exact h2
def GivesDL (w : World) (e : Ending) (w' : World) : Prop := ∃ (B : Option Addr) (d : Nat) (xs : List ReportLine), e = .returned (.slice B xs.length d) ∧ LinesAt w' B d xs ∧ Below w.heap.size w w'
theorem lines_at {w' : World} {base d : Nat} {B : Option Addr} {xs : List ReportLine} (h : w'.ownsRow base 42 4 (.slice B xs.length d) xs.length (xs.flatMap ReportLine.enc)) (hl : xs.length ≤ 14) (hu : ∀ x ∈ xs, x.upto 20) : LinesAt w' B d xs :=
  ⟨(Sees.of_own h).less (Nat.zero_le _), own_cap h, hl, upto_bigR hu⟩
theorem DrawAreLines_any (A : Option Addr) (m c : Nat) (w : World) (h : CodeIn w A m) (hm : m ≤ 1000000) : Calls Tryd.prog 47 #[.slice A m c] w (GivesDL w) := by
  have U : Below w.heap.size w (w.alloc (.cells #[.slice A m c, .int .i64 0, .int .u64 0] 65)) := (Below.refl _ _).alloc (Nat.le_refl _) _
  have CC := cur_new h hm U (Nat.le_refl _) (Blk.at_ rfl)
  go_enter Tryd.func47, Tryd.ntmps47
  go_wp2_with fail
  refine (reportLines_any w.heap.size 0 _ CC (by decide)).mono ?_
  rintro e w1 ⟨B, d, xs, rfl, ow, hl, hu, c1, o1⟩
  go_wp2_with fail
  go_ret
  exact ⟨B, d, xs, rfl, lines_at ow hl hu, U.trans (o1.below (fun b (hb : b = _) => by omega) (by simp))⟩
theorem DrawReportText_any (A : Option Addr) (m c : Nat) (w : World) (h : CodeIn w A m) (hm : m ≤ 1000000) : Calls Tryd.prog 20 #[.slice A m c] w (GivesDL w) := by
  go_enter Tryd.func20, Tryd.ntmps20
  go_wp2_with fail
  refine (DrawAreLines_any A m c w h hm).mono ?_
  rintro e w1 ⟨B, d, xs, rfl, hL, b1⟩
  go_wp2_with fail
  go_ret
  exact ⟨B, d, xs, rfl, hL, b1⟩
def GivesDC (w : World) (e : Ending) (w' : World) : Prop := ∃ (B : Option Addr) (d : Nat) (xs : List ReportLine) (club : ByteArray) (best : Int), e = .returned (.tuple #[.slice B xs.length d, .string club, .int .i64 best]) ∧ (0 ≤ best ∧ best ≤ 13) ∧ LinesAt w' B d xs ∧ Below w.heap.size w w'
set_option maxHeartbeats 2000000 in
theorem DrawClubTimes_any (A : Option Addr) (m c : Nat) (w : World) (h : CodeIn w A m) (hm : m ≤ 1000000) : Calls Tryd.prog 21 #[.slice A m c] w (GivesDC w) := by
  have U : Below w.heap.size w (w.alloc (.cells #[.slice A m c, .int .i64 0, .int .u64 0] 65)) := (Below.refl _ _).alloc (Nat.le_refl _) _
  have CC := cur_new h hm U (Nat.le_refl _) (Blk.at_ rfl)
  go_enter Tryd.func21, Tryd.ntmps21
  go_wp2_with fail
  refine (reportLines_any w.heap.size 0 _ CC (by decide)).mono ?_
  rintro e w1 ⟨B, d, xs, rfl, ow, hl, hu, c1, o1⟩
  have K1 := U.trans (o1.below (fun b (hb : b = _) => by omega) (by simp))
  have L1 := lines_at ow hl hu
  have hsz := o1.size
  have hz1 : w.heap.size < w1.heap.size := c1.lt
  have hown : ∀ b, OwnB B b → w.heap.size < b := fun b hb => by have := (own_top ow hb).1; simp at this; omega
  clear U CC o1 hl hu hsz
  have U2 : Below w1.heap.size w1 (w1.alloc (.cells #[.string ⟨#[104, 105, 108, 108]⟩, .string ⟨#[102, 101, 110]⟩, .string ⟨#[120]⟩, .string ⟨#[110, 111, 110, 101]⟩] 9)) := (Below.refl _ _).alloc (Nat.le_refl _) _
  have B2 : Blk (w1.alloc (.cells #[.string ⟨#[104, 105, 108, 108]⟩, .string ⟨#[102, 101, 110]⟩, .string ⟨#[120]⟩, .string ⟨#[110, 111, 110, 101]⟩] 9)) w1.heap.size 9 (([⟨#[104, 105, 108, 108]⟩, ⟨#[102, 101, 110]⟩, ⟨#[120]⟩, ⟨#[110, 111, 110, 101]⟩] : List ByteArray).map Value.string) := Blk.at_ rfl
  go_wp2_with fail
  refine (of_any w.heap.size _ w1.heap.size 4 _ [⟨#[104, 105, 108, 108]⟩, ⟨#[102, 101, 110]⟩, ⟨#[120]⟩, ⟨#[110, 111, 110, 101]⟩] _ B2 (by omega) (c1.next U2) (by decide) rfl (by decide) (by decide)).mono ?_
  rintro e w2 ⟨club, rfl, _, c2, o2⟩
  have P2 : Only (fun b => b = w.heap.size) w1 w2 := (Only.of_below U2).trans o2
  have hz2 := o2.size
  clear U2 B2 o2 c1
  have U3 : Below w2.heap.size w2 (w2.alloc (.cells #[.int .i64 1, .int .i64 1, .int .i64 2, .int .i64 3, .int .i64 12, .int .i64 0, .int .i64 13] 3)) := (Below.refl _ _).alloc (Nat.le_refl _) _
  have B3 : Blk (w2.alloc (.cells #[.int .i64 1, .int .i64 1, .int .i64 2, .int .i64 3, .int .i64 12, .int .i64 0, .int .i64 13] 3)) w2.heap.size 3 (ints [1, 1, 2, 3, 12, 0, 13]) := Blk.at_ rfl
  have hlt2 := c2.lt
  go_wp2_with fail
  refine (pick_any 24 w.heap.size _ _ (c2.next U3) (by decide) (by decide) (by decide)).mono ?_
  rintro e w3 ⟨r, rfl, hr, c3, o3⟩
  have hr23 : r ≤ 23 := hr
  have B4 := B3.only o3 (fun (e : _ = _) => by omega)
  have P3 := (P2.then_ U3).trans o3
  obtain ⟨q, hq, hq7⟩ : ∃ q : Nat, (5 + (r : Int) / 11) = (q : Int) ∧ 5 ≤ q ∧ q ≤ 7 := ⟨5 + r / 11, by omega, by omega, by omega⟩
  have hq4 := hq7.1
  have hq5 := hq7.2
  clear hr U3 B3 o3 hq7 P2
  go_wp2_with fail
  refine (among_cut w.heap.size _ w2.heap.size q 7 _ [1, 1, 2, 3, 12, 0, 13] _ B4 (by omega) c3 (by decide) (by simpa using hq5) (by omega) (by omega)).mono ?_
  rintro e w4 ⟨best, rfl, hb, c4, o4⟩
  have P4 := P3.trans o4
  have hbb : 0 ≤ best ∧ best ≤ 13 := by simp at hb; omega
  clear hb
  go_wp2_with fail
  go_ret3
  refine ⟨B, d, xs, club, best, rfl, hbb, ⟨L1.sees.only P4 (fun b off e _ (hb : b = _) => by have := hown b (by rw [e]; rfl); omega), L1.cap, L1.small, L1.upto⟩, K1.trans (P4.below (fun b (hb : b = _) => by omega) (by omega))⟩
def GivesDR (w : World) (e : Ending) (w' : World) : Prop := ∃ x : ReportLine, e = .returned (.agg #[.string x.name, .string x.club, .int .i64 x.status, .int .i64 x.time]) ∧ x.upto 9223372036854775807 ∧ Below w.heap.size w w'
theorem DrawIsReportLine_any (A : Option Addr) (m c : Nat) (w : World) (h : CodeIn w A m) (hm : m ≤ 1000000) : Calls Tryd.prog 24 #[.slice A m c] w (GivesDR w) := by
  have U : Below w.heap.size w ((w.alloc (.cells #[.string ⟨#[]⟩, .string ⟨#[]⟩, .int .i64 0, .int .i64 0] 42)).alloc (.cells #[.slice A m c, .int .i64 0, .int .u64 0] 65)) := ((Below.refl _ _).alloc (Nat.le_refl _) _).alloc (by simp) _
  have R0 : Blk ((w.alloc (.cells #[.string ⟨#[]⟩, .string ⟨#[]⟩, .int .i64 0, .int .i64 0] 42)).alloc (.cells #[.slice A m c, .int .i64 0, .int .u64 0] 65)) w.heap.size 42 [.string ⟨#[]⟩, .string ⟨#[]⟩, .int .i64 0, .int .i64 0] := (Blk.at_ rfl).alloc _
  have CC := cur_new (g := w.heap.size + 1) h hm U (by omega) (Blk.at_ (by simp))
  go_enter Tryd.func24, Tryd.ntmps24
  go_wp2_with fail
  refine (reportLine_any (w.heap.size + 1) 0 _ CC (by decide)).mono ?_
  rintro e w1 ⟨x, rfl, hx, c1, o1⟩
  have R1 := R0.only o1 (fun (e : _ = _) => by omega)
  have K1 := U.trans (o1.below (fun b (hb : b = _) => by omega) (by simp; omega))
  have cr := R1.cell
  have fr := R1.frozen
  clear R0 CC U
  go_wp2_with fail
  refine bodyPost_ret (v := .agg #[.string x.name, .string x.club, .int .i64 x.status, .int .i64 x.time]) (by simp [results, Tryd.results24, go_sem, cr]) rfl ?_
  exact ⟨x, rfl, ReportLine.upto_mono hx (by decide), bel_many (Nat.le_refl _) [.string x.name, .string x.club, .int .i64 x.status, .int .i64 x.time] K1 0⟩

end Go.Proofs.YtbcblmbpjecilaaDoor
