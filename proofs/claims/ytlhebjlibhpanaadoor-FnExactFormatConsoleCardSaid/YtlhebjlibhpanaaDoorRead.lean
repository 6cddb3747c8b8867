/- One record read from the beginning of a text. -/
import Derived.Test.YtlhebjlibhpanaaDoorEnc
import Derived.Test.YtlhebjlibhpanaaDoorCut
namespace Go.Proofs.YtlhebjlibhpanaaDoor
open Go.RowKit

/-- the record that a line can have, whatever its number -/
def candR (line : ByteArray) : LogRecord := ⟨upto 64 (past 32 (upto 35 line)), past 64 (past 32 (upto 35 line))⟩
def okR (k : Nat) (line : ByteArray) : Option LogRecord := if recB (candR line) = true ∧ lineT k (candR line) = line ++ ⟨#[10]⟩ then some (candR line) else none
theorem right_cancel {a b c : ByteArray} (h : a ++ c = b ++ c) : a = b := by
  have h1 := congrArg (fun x => x.data.toList) h
  simp only [ByteArray.data_append, Array.toList_append] at h1
  exact ByteArray.ext (Array.toList_inj.1 (List.append_cancel_right h1))
theorem candR_line {k : Nat} {e : LogRecord} {line : ByteArray} (h : recB e = true) (hl : lineT k e = line ++ ⟨#[10]⟩) : candR line = e ∧ upto 35 line = bodyT k e ∧ past 32 (upto 35 line) = e.command ++ ⟨#[64]⟩ ++ e.reply := by
  have h1 : line = bodyT k e ++ ⟨#[35]⟩ ++ numT (sumT (bodyT k e)) := (right_cancel hl).symm
  have h2 : upto 35 line = bodyT k e := by rw [h1]; exact (cut_join (body_no h)).1
  have h3 : bodyT k e = numT k ++ ⟨#[32]⟩ ++ (e.command ++ ⟨#[64]⟩ ++ e.reply) := by
    unfold bodyT; simp only [ByteArray.append_assoc]
  have h4 : past 32 (upto 35 line) = e.command ++ ⟨#[64]⟩ ++ e.reply := by rw [h2, h3]; exact (cut_join (hasC_num 32 k (by decide))).2.1
  have h5 := cut_join (q := e.reply) (recB_facts h).2.2.2.2
  refine ⟨?_, h2, h4⟩
  unfold candR
  rw [h4, h5.1, h5.2.1]
theorem okR_of {k : Nat} {e : LogRecord} {line : ByteArray} (h : recB e = true) (hl : lineT k e = line ++ ⟨#[10]⟩) : okR k line = some e := by
  have h1 := (candR_line h hl).1
  unfold okR
  rw [h1, if_pos ⟨h, hl⟩]
theorem okR_some {k : Nat} {e : LogRecord} {line : ByteArray} (h : okR k line = some e) : recB e = true ∧ lineT k e = line ++ ⟨#[10]⟩ := by
  unfold okR at h
  split at h
  · rename_i h1
    obtain rfl := Option.some.inj h
    exact h1
  · cases h
/-- the record with a number at the beginning of a text, and how many bytes it has -/
def nextR (k : Nat) (s : ByteArray) : Option (LogRecord × Nat) := if hasC 10 s = true ∧ k < 60 then (okR k (upto 10 s)).map fun e => (e, (upto 10 s).size + 1) else none
def retR : Option (LogRecord × Nat) → Ending
  | none => .returned (.tuple #[.agg #[.string ⟨#[]⟩, .string ⟨#[]⟩], .int .i64 0, .bool false])
  | some (e, n) => .returned (.tuple #[.agg #[.string e.command, .string e.reply], .int .i64 (n : Int), .bool true])

set_option maxRecDepth 100000 in
set_option maxHeartbeats 1000000 in
theorem readRecord_any (s : ByteArray) (k : Nat) (w : World) (hs : s.size ≤ 3000000) (hk : k ≤ 1000000) (hg : Gl w) :
    Calls Tryd.prog 43 #[.string s, .int .i64 (k : Int)] w fun x w' => x = retR (nextR k s) ∧ Below w.heap.size w w' := by
  have z1 := upto_size 10 s
  have z2 := upto_size 35 (upto 10 s)
  have z3 := past_size 32 (upto 35 (upto 10 s))
  have z4 := upto_size 64 (past 32 (upto 35 (upto 10 s)))
  have z5 := past_size 64 (past 32 (upto 35 (upto 10 s)))
  go_enter Tryd.func43, Tryd.ntmps43
  go_wp2_with fail
  have K0 : Below w.heap.size w (w.alloc (.cells #[.string ⟨#[]⟩, .string ⟨#[]⟩] 83)) := (Below.refl _ _).alloc (Nat.le_refl _) _
  have B0 : Blk (w.alloc (.cells #[.string ⟨#[]⟩, .string ⟨#[]⟩] 83)) w.heap.size 83 [.string ⟨#[]⟩, .string ⟨#[]⟩] := Blk.at_ rfl
  refine (Cut_any s 10 _ (by omega) (hg.next K0)).mono ?_
  rintro e w1 ⟨rfl, q1⟩
  have K1 := bel_quiet K0 q1
  have B1 := B0.quiet q1
  go_wp2_with fail
  refine (Cut_any (upto 10 s) 35 _ (by omega) (hg.next K1)).mono ?_
  rintro e w2 ⟨rfl, q2⟩
  have K2 := bel_quiet K1 q2
  have B2 := B1.quiet q2
  go_wp2_with fail
  refine (Cut_any (upto 35 (upto 10 s)) 32 _ (by omega) (hg.next K2)).mono ?_
  rintro e w3 ⟨rfl, q3⟩
  have K3 := bel_quiet K2 q3
  have B3 := B2.quiet q3
  go_wp2_with fail
  refine (Cut_any (past 32 (upto 35 (upto 10 s))) 64 _ (by omega) (hg.next K3)).mono ?_
  rintro e w4 ⟨rfl, q4⟩
  have K4 := bel_quiet K3 q4
  have B4 := B3.quiet q4


  have HC := Lib.hid (show candR (upto 10 s) = ⟨upto 64 (past 32 (upto 35 (upto 10 s))), past 64 (past 32 (upto 35 (upto 10 s)))⟩ from rfl)
  generalize upto 64 (past 32 (upto 35 (upto 10 s))) = c at *
  generalize past 64 (past 32 (upto 35 (upto 10 s))) = r at *
  have hu : (⟨c, r⟩ : LogRecord).upto 9223372036854775807 := by unfold LogRecord.upto; exact ⟨by show c.size ≤ _; omega, by show r.size ≤ _; omega⟩
  have HU := Lib.hid hu
  clear hu
  have hz10 : (upto 10 s).size + 1 ≤ 9223372036854775807 := by omega
  have K5 : Below w.heap.size w (w4.alloc (.cells #[.string c, .string r] 83)) := bel_then K4 ((Below.refl _ _).alloc (Nat.le_refl _) _)
  have B5 : Blk (w4.alloc (.cells #[.string c, .string r] 83)) w.heap.size 83 [.string ⟨#[]⟩, .string ⟨#[]⟩] := B4.alloc _
  have C5 : Blk (w4.alloc (.cells #[.string c, .string r] 83)) w4.heap.size 83 [.string c, .string r] := Blk.at_ rfl
  have b5c := B5.cell
  have b5f := B5.frozen
  cases g : hasC 10 s
  · have HR := Lib.hid (show nextR k s = none by unfold nextR; rw [g, if_neg (by simp)])
    go_wp2_with fail
    refine bodyPost_ret (v := .tuple #[.agg #[.string ⟨#[]⟩, .string ⟨#[]⟩], .int .i64 0, .bool false]) (by simp [results, Tryd.results43, go_sem, b5c]) rfl ?_
    exact ⟨by rw [HR.out]; rfl, (K5.setCell (p := ⟨w.heap.size, 0, none⟩) (Nat.le_refl _) _).setCell (p := ⟨w.heap.size, 1, none⟩) (Nat.le_refl _) _⟩
  · by_cases hk6 : 60 ≤ k
    · have HR := Lib.hid (show nextR k s = none by unfold nextR; rw [if_neg (by omega)])
      go_wp2_with fail
      refine bodyPost_ret (v := .tuple #[.agg #[.string ⟨#[]⟩, .string ⟨#[]⟩], .int .i64 0, .bool false]) (by simp [results, Tryd.results43, go_sem, b5c]) rfl ?_
      exact ⟨by rw [HR.out]; rfl, (K5.setCell (p := ⟨w.heap.size, 0, none⟩) (Nat.le_refl _) _).setCell (p := ⟨w.heap.size, 1, none⟩) (Nat.le_refl _) _⟩
    · have HN := Lib.hid (show nextR k s = (okR k (upto 10 s)).map fun e => (e, (upto 10 s).size + 1) by unfold nextR; rw [g, if_pos ⟨rfl, by omega⟩])
      go_wp2_with fail
      refine (IsValidRecord_any ⟨c, r⟩ _ HU.out).mono ?_
      cases g2 : recB ⟨c, r⟩
      · rintro e w6 ⟨rfl, b6⟩
        have HR := Lib.hid (show nextR k s = none by rw [HN.out, okR, HC.out, g2, if_neg (by simp)]; rfl)
        have K6 := bel_then K5 b6
        have B6 := B5.next b6
        have b6c := B6.cell
        have b6f := B6.frozen
        clear b5c b5f
        go_wp2_with fail
        refine bodyPost_ret (v := .tuple #[.agg #[.string ⟨#[]⟩, .string ⟨#[]⟩], .int .i64 0, .bool false]) (by simp [results, Tryd.results43, go_sem, b6c]) rfl ?_
        exact ⟨by rw [HR.out]; rfl, (K6.setCell (p := ⟨w.heap.size, 0, none⟩) (Nat.le_refl _) _).setCell (p := ⟨w.heap.size, 1, none⟩) (Nat.le_refl _) _⟩
      · rintro e w6 ⟨rfl, b6⟩
        have K6 := bel_then K5 b6
        have B6 := B5.next b6
        have C6 := C5.next b6
        have c6c := C6.cell
        clear b5c b5f
        have HG2 := Lib.hid g2
        clear g2
        go_wp2_with fail
        refine (encodeRecord_any k ⟨c, r⟩ _ (by omega) HG2.out (hg.next K6)).mono ?_
        rintro e w7 ⟨rfl, b7⟩
        have K7 := bel_then K6 b7
        have B7 := B6.next b7
        have C7 := C6.next b7
        have b7c := B7.cell
        have b7f := B7.frozen
        have c7c := C7.cell
        clear c6c
        by_cases g3 : lineT k ⟨c, r⟩ = upto 10 s ++ ⟨#[10]⟩
        · have hbe : ((lineT k ⟨c, r⟩).toList == (upto 10 s ++ ⟨#[10]⟩).toList) = true := by rw [str_beq, decide_eq_true g3]
          have hbd : decide (lineT k ⟨c, r⟩ = upto 10 s ++ ⟨#[10]⟩) = true := decide_eq_true g3
          have HR := Lib.hid (show nextR k s = some (⟨c, r⟩, (upto 10 s).size + 1) by rw [HN.out, okR, HC.out, if_pos ⟨HG2.out, g3⟩]; rfl)
          clear g3
          go_wp2_with fail
          refine bodyPost_ret (v := .tuple #[.agg #[.string c, .string r], .int .i64 (((upto 10 s).size + 1 : Nat) : Int), .bool true]) (by simp [results, Tryd.results43, go_sem, b7c]) rfl ?_
          exact ⟨by rw [HR.out]; rfl, (K7.setCell (p := ⟨w.heap.size, 0, none⟩) (Nat.le_refl _) _).setCell (p := ⟨w.heap.size, 1, none⟩) (Nat.le_refl _) _⟩
        · have hbe : ((lineT k ⟨c, r⟩).toList == (upto 10 s ++ ⟨#[10]⟩).toList) = false := by rw [str_beq, decide_eq_false g3]
          have hbd : decide (lineT k ⟨c, r⟩ = upto 10 s ++ ⟨#[10]⟩) = false := decide_eq_false g3
          have HR := Lib.hid (show nextR k s = none by rw [HN.out, okR, HC.out, if_neg (fun h => g3 h.2)]; rfl)
          clear g3
          go_wp2_with fail
          refine bodyPost_ret (v := .tuple #[.agg #[.string ⟨#[]⟩, .string ⟨#[]⟩], .int .i64 0, .bool false]) (by simp [results, Tryd.results43, go_sem, b7c]) rfl ?_
          exact ⟨by rw [HR.out]; rfl, (K7.setCell (p := ⟨w.heap.size, 0, none⟩) (Nat.le_refl _) _).setCell (p := ⟨w.heap.size, 1, none⟩) (Nat.le_refl _) _⟩

theorem l1Split_first (s : ByteArray) (b : UInt8) (z : Int) (w : World) (hz : z = (b.toNat : Int)) (hs : s.size ≤ 3000000) :
    Calls Tryd.prog 50 #[.string s, .int .u8 z] w fun e w' => ∃ g n c, e = .returned (.slice (some ⟨g, 0, none⟩) n c) ∧ w'.cell? ⟨g, 0, none⟩ = some (.string (upto b s)) ∧ 1 ≤ n ∧ decide (2 ≤ n) = hasC b s ∧ (w.heap.size ≤ g ∧ g < w'.heap.size) ∧ Below w.heap.size w w' := by
  refine (l1Split_any s b z w hz hs).mono ?_
  rintro e w' ⟨A, n, c, L, rfl, hn, ho, h0, h2, hb⟩
  cases L with
  | nil => cases h0
  | cons x L =>
    have hx : x = upto b s := by simpa using h0
    rcases own_open ho with ⟨_, h3, _⟩ | ⟨g, cur, rfl, h9, h4, _, _, _, h5⟩
    · simp at hn; omega
    · refine ⟨g, n, c, rfl, ?_, by simp at hn; omega, h2, ⟨h9, h4.lt⟩, hb⟩
      rw [h4.cell]
      have h6 := congrArg (fun l => l[0]?) h5
      simp only [List.getElem?_take] at h6
      rw [if_pos (by simp at hn; omega)] at h6
      rw [h6, strs, List.map_cons, hx]; rfl
theorem take_left (a b : ByteArray) : (a ++ b).extract 0 a.size = a ∧ (a ++ b).extract a.size (a ++ b).size = b := by
  refine ⟨ByteArray.ext (Array.toList_inj.1 ?_), ByteArray.ext (Array.toList_inj.1 ?_)⟩
  · simp [← ByteArray.size_data]
  · simp [← ByteArray.size_data]
theorem join_parts (s : ByteArray) (k : Nat) (_ : k ≤ s.size) : s.extract 0 k ++ s.extract k s.size = s := by
  refine ByteArray.ext (Array.toList_inj.1 ?_)
  simp
/-- what the reference's reading rests on -/
def aheadT (k : Nat) : ByteArray := numT k ++ ⟨#[32]⟩
theorem okR_ahead {k : Nat} {line : ByteArray} {e : LogRecord} (h : okR k line = some e) : upto 35 line = aheadT k ++ (e.command ++ ⟨#[64]⟩ ++ e.reply) ∧ hasC 64 (e.command ++ ⟨#[64]⟩ ++ e.reply) = true := by
  obtain ⟨h1, h2⟩ := okR_some h
  obtain ⟨_, h3, _⟩ := candR_line h1 h2
  refine ⟨?_, (cut_join (recB_facts h1).2.2.2.2).2.2⟩
  rw [h3, bodyT, aheadT]
  simp only [ByteArray.append_assoc]
theorem okR_short {k : Nat} {line : ByteArray} (h : (upto 35 line).size < (aheadT k).size) : okR k line = none := by
  cases g : okR k line with
  | none => rfl
  | some e =>
    have := congrArg ByteArray.size (okR_ahead g).1
    rw [ByteArray.size_append] at this
    omega
theorem okR_other {k : Nat} {line : ByteArray} (h : (upto 35 line).extract 0 (aheadT k).size ≠ aheadT k) : okR k line = none := by
  cases g : okR k line with
  | none => rfl
  | some e => exact absurd (by rw [(okR_ahead g).1]; exact (take_left _ _).1) h
theorem okR_rest {k : Nat} {line : ByteArray} (h0 : (aheadT k).size ≤ (upto 35 line).size) (h : (upto 35 line).extract 0 (aheadT k).size = aheadT k) : past 32 (upto 35 line) = (upto 35 line).extract (aheadT k).size (upto 35 line).size := by
  have h1 := join_parts (upto 35 line) _ h0
  rw [h] at h1
  have h2 := (cut_join (q := (upto 35 line).extract (aheadT k).size (upto 35 line).size) (hasC_num 32 k (by decide))).2.1
  unfold aheadT at h1 h2 ⊢
  rw [h1] at h2
  exact h2
theorem okR_noat {k : Nat} {line : ByteArray} (h : hasC 64 (past 32 (upto 35 line)) = false) : okR k line = none := by
  cases g : okR k line with
  | none => rfl
  | some e =>
    obtain ⟨h1, h2⟩ := okR_some g
    rw [(candR_line h1 h2).2.2, (okR_ahead g).2] at h
    cases h
theorem upto_full {b : UInt8} {s : ByteArray} : ((upto b s).size = s.size ↔ hasC b s = false) := by
  constructor
  · intro h
    rw [← Bool.not_eq_true]
    intro h1
    have h2 := congrArg ByteArray.size (cut_split h1)
    have h3 : (⟨#[b]⟩ : ByteArray).size = 1 := rfl
    rw [ByteArray.size_append, ByteArray.size_append] at h2
    omega
  · intro h; rw [upto_none h]
theorem past_extract {b : UInt8} {s : ByteArray} (h : hasC b s = true) : s.extract ((upto b s).size + 1) s.size = past b s := by
  have h2 := cut_split h
  have h3 : (⟨#[b]⟩ : ByteArray).size = 1 := rfl
  have h4 := (take_left (upto b s ++ ⟨#[b]⟩) (past b s)).2
  rw [ByteArray.size_append, h3, ← h2] at h4
  exact h4

end Go.Proofs.YtlhebjlibhpanaaDoor
