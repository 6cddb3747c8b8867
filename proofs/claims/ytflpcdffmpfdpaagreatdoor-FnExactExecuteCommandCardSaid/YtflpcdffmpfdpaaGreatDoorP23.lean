/- Joined texts of this proof: Enc, Read, Read2. -/
import Derived.Test.YtflpcdffmpfdpaaGreatDoorP14
import Derived.Test.YtflpcdffmpfdpaaGreatDoorP15
namespace Go.Proofs.YtflpcdffmpfdpaaGreatDoor
open Go.RowKit


set_option maxRecDepth 100000 in
set_option maxHeartbeats 1000000 in
theorem encodeRecord_any (k : Nat) (e : LogRecord) (w : World) (hk : k < 100) (he : recB e = true) (hg : Gl w) :
    Calls Tryz.prog 99 #[.int .i64 (k : Int), .agg #[.string e.command, .string e.reply]] w fun x w' => x = .returned (.string (lineT k e)) ∧ Below w.heap.size w w' := by
  obtain ⟨⟨h1, h2⟩, h3, _⟩ := recB_facts he
  have hn := numT_size k 2 (by omega) (by decide)
  have hs := sealT_size (bodyT k e)
  have hb := body_size (k := k) he hk
  have HB := Lib.hid hb
  have HH := Lib.hid (body_no (k := k) he)
  have HL := Lib.hid (show lineT k e = sealT (bodyT k e) ++ ⟨#[10]⟩ from rfl)
  clear he
  go_enter Tryz.func99, Tryz.ntmps99
  go_wp2_with fail
  have K1 : Below w.heap.size w (w.alloc (.cells #[.string e.command, .string e.reply] 69)).drew := bel_then ((Below.refl _ _).alloc (Nat.le_refl _) _) ((Quiet.one _).below _)
  have B1 : Blk (w.alloc (.cells #[.string e.command, .string e.reply] 69)).drew w.heap.size 69 [.string e.command, .string e.reply] := (Blk.at_ rfl : Blk (w.alloc (.cells #[.string e.command, .string e.reply] 69)) w.heap.size 69 [.string e.command, .string e.reply])
  have c1 := B1.cell
  have f1 : ¬ 9223372036854775807 < (numT k).size + 1 := by omega
  have f2 : ¬ 9223372036854775807 < (numT k).size + 1 + e.command.size := by omega
  have f3 : ¬ 9223372036854775807 < (numT k).size + 1 + e.command.size + 1 := by omega
  have f4 : ¬ 9223372036854775807 < (numT k).size + 1 + e.command.size + 1 + e.reply.size := by omega
  refine wp_region_held_drew (S := fun w' => w'.cell? ⟨w.heap.size, 0, none⟩ = some (.string e.command) ∧ w'.cell? ⟨w.heap.size, 1, none⟩ = some (.string e.reply)) (by kernel_rfl) (by (try dsimp only); go_keep) (fun hH => ?_)
  refine wQ 0 ?_
  refine wQ 3 ?_
  refine wQ 4 ?_
  refine wQ 7 ?_
  refine wQ 8 ?_
  refine wR (rs := [1]) (by kernel_rfl) (by simp) ?_
  refine aC rfl (fun K hK => ?_) aN
  go_simp
  refine (Itoa_any k _ (by omega) (hg.next K1)).mono ?_
  rintro e w2 ⟨rfl, b2⟩
  have K2 := bel_then K1 b2
  have B2 := B1.next b2
  have c2 := B2.cell
  clear c1

  go_wp2_with fail
  refine hK.out _ _ (by (try dsimp only); go_keep) (fun hH => ?_)
  clear hK K
  refine wQ 2 ?_
  refine wQ 5 ?_
  refine wQ 6 ?_
  refine wQ 9 ?_
  refine wR (rs := [10]) (by kernel_rfl) (by simp) ?_
  refine aC rfl (fun K hK => ?_) aN
  go_simp
  refine (AppendChecksum_any _ _ ?_ ?_ (hg.next K2)).mono ?_
  · exact Nat.le_trans (HB.out) (by decide)
  · exact HH.out
  rw [show sealT (numT k ++ ⟨#[32]⟩ ++ e.command ++ ⟨#[64]⟩ ++ e.reply) = sealT (bodyT k e) from rfl]
  rintro e w3 ⟨rfl, b3⟩
  have K3 := bel_then K2 b3
  have B3 := B2.next b3
  have c3 := B3.cell
  clear c2

  go_wp2_with fail
  refine hK.out _ _ (by (try dsimp only); go_keep) (fun hH => ?_)
  clear hK K
  refine wQ 11 ?_
  refine wQ 12 ?_
  refine wQ 13 ?_
  refine wQ 14 ?_
  refine wQ 15 ?_
  refine wD (by kernel_rfl) ?_ _
  go_wp2_with fail
  go_ret
  exact ⟨by rw [HL.out]; rfl, K3⟩

set_option maxRecDepth 100000 in
set_option maxHeartbeats 1000000 in
theorem l27Line_any (k : Nat) (e : LogRecord) (w : World) (hk : k < 100) (he : recB e = true) :
    Calls Tryz.prog 88 #[.int .i64 (k : Int), .agg #[.string e.command, .string e.reply]] w fun x w' => x = .returned (.string (lineT k e)) ∧ Below w.heap.size w w' := by
  obtain ⟨⟨h1, h2⟩, h3, _⟩ := recB_facts he
  have hn := numT_size k 2 (by omega) (by decide)
  have hs := sealT_size (bodyT k e)
  have hb := body_size (k := k) he hk
  have HB := Lib.hid hb
  have HL := Lib.hid (show lineT k e = sealT (bodyT k e) ++ ⟨#[10]⟩ from rfl)
  have fe : ¬ 9223372036854775807 < (sealT (bodyT k e)).size + 1 := by omega
  clear he
  go_enter Tryz.func88, Tryz.ntmps88
  go_wp2_with fail
  have K1 : Below w.heap.size w (w.alloc (.cells #[.string e.command, .string e.reply] 69)).drew := bel_then ((Below.refl _ _).alloc (Nat.le_refl _) _) ((Quiet.one _).below _)
  have B1 : Blk (w.alloc (.cells #[.string e.command, .string e.reply] 69)).drew w.heap.size 69 [.string e.command, .string e.reply] := (Blk.at_ rfl : Blk (w.alloc (.cells #[.string e.command, .string e.reply] 69)) w.heap.size 69 [.string e.command, .string e.reply])
  have c1 := B1.cell
  have f1 : ¬ 9223372036854775807 < (numT k).size + 1 := by omega
  have f2 : ¬ 9223372036854775807 < (numT k).size + 1 + e.command.size := by omega
  have f3 : ¬ 9223372036854775807 < (numT k).size + 1 + e.command.size + 1 := by omega
  have f4 : ¬ 9223372036854775807 < (numT k).size + 1 + e.command.size + 1 + e.reply.size := by omega
  refine wp_region_held_drew (S := fun w' => w'.cell? ⟨w.heap.size, 0, none⟩ = some (.string e.command) ∧ w'.cell? ⟨w.heap.size, 1, none⟩ = some (.string e.reply)) (by kernel_rfl) (by (try dsimp only); go_keep) (fun hH => ?_)
  refine wQ 0 ?_
  refine wQ 3 ?_
  refine wQ 4 ?_
  refine wQ 7 ?_
  refine wQ 8 ?_
  refine wR (rs := [1]) (by kernel_rfl) (by simp) ?_
  refine aC rfl (fun K hK => ?_) aN
  go_simp
  refine (l1Num_any k _ (by omega)).mono ?_
  rintro e w2 ⟨rfl, q2⟩
  have b2 := q2.below w.heap.size
  have K2 := K1.trans b2
  have B2 := B1.quiet q2
  have c2 := B2.cell
  clear c1

  go_wp2_with fail
  refine hK.out _ _ (by (try dsimp only); go_keep) (fun hH => ?_)
  clear hK K
  refine wQ 2 ?_
  refine wQ 5 ?_
  refine wQ 6 ?_
  refine wQ 9 ?_
  refine wR (rs := [10]) (by kernel_rfl) (by simp) ?_
  refine aC rfl (fun K hK => ?_) aN
  go_simp
  refine (l1Seal_any _ _ ?_).mono ?_
  · exact Nat.le_trans (HB.out) (by decide)
  rw [show sealT (numT k ++ ⟨#[32]⟩ ++ e.command ++ ⟨#[64]⟩ ++ e.reply) = sealT (bodyT k e) from rfl]
  rintro e w3 ⟨rfl, q3⟩
  have b3 := q3.below w.heap.size
  have K3 := K2.trans b3
  have B3 := B2.quiet q3
  have c3 := B3.cell
  clear c2

  go_wp2_with fail
  refine hK.out _ _ (by (try dsimp only); go_keep) (fun hH => ?_)
  clear hK K
  refine wQ 11 ?_
  refine wQ 12 ?_
  refine wD (by kernel_rfl) ?_ _
  go_wp2_with fail
  go_ret
  exact ⟨by rw [HL.out]; rfl, K3⟩

/-- A text and a word. -/
def GivesText (w : World) (R : ByteArray × Bool) (e : Ending) (w' : World) : Prop := e = .returned (.tuple #[.string R.1, .bool R.2]) ∧ Below w.heap.size w w'

end Go.Proofs.YtflpcdffmpfdpaaGreatDoor

namespace Go.Proofs.YtflpcdffmpfdpaaGreatDoor
open Go.RowKit

/-- the record that a line can have, whatever its number -/
def candR (line : ByteArray) : LogRecord := ⟨upto 64 (past 32 (upto 35 line)), past 64 (past 32 (upto 35 line))⟩
def okR (k : Nat) (line : ByteArray) : Option LogRecord := if recB (candR line) = true ∧ lineT k (candR line) = line ++ ⟨#[10]⟩ then some (candR line) else none
theorem right_cancel {a b c : ByteArray} (h : a ++ c = b ++ c) : a = b := by
  have h1 := congrArg (fun x => x.data.toList) h
  simp only [ByteArray.data_append, Array.toList_append] at h1
  exact ByteArray.ext (Array.toList_inj.1 (List.append_cancel_right h1))
theorem candR_line {k : Nat} {e : LogRecord} {line : ByteArray} (h : recB e = true) (hl : lineT k e = line ++ ⟨#[10]⟩) : candR line = e ∧ upto 35 line = bodyT k e ∧ past 32 (upto 35 line) = e.command ++ ⟨#[64]⟩ ++ e.reply := by
  have h1 : line = bodyT k e ++ ⟨#[35]⟩ ++ numT (sumT (bodyT k e)) := (right_cancel hl).symm
  have h2 : upto 35 line = bodyT k e := by rw [h1]; exact (cut_join (body_no h)).1
  have h3 : bodyT k e = numT k ++ ⟨#[32]⟩ ++ (e.command ++ ⟨#[64]⟩ ++ e.reply) := by
    unfold bodyT; simp only [ByteArray.append_assoc]
  have h4 : past 32 (upto 35 line) = e.command ++ ⟨#[64]⟩ ++ e.reply := by rw [h2, h3]; exact (cut_join (hasC_num 32 k (by decide))).2.1
  have h5 := cut_join (q := e.reply) (recB_facts h).2.2.2.2
  refine ⟨?_, h2, h4⟩
  unfold candR
  rw [h4, h5.1, h5.2.1]
theorem okR_some {k : Nat} {e : LogRecord} {line : ByteArray} (h : okR k line = some e) : recB e = true ∧ lineT k e = line ++ ⟨#[10]⟩ := by
  unfold okR at h
  split at h
  · rename_i h1
    obtain rfl := Option.some.inj h
    exact h1
  · cases h
/-- the record with a number at the beginning of a text, and how many bytes it has -/
def nextR (k : Nat) (s : ByteArray) : Option (LogRecord × Nat) := if hasC 10 s = true ∧ k < 60 then (okR k (upto 10 s)).map fun e => (e, (upto 10 s).size + 1) else none
def retR : Option (LogRecord × Nat) → Ending
  | none => .returned (.tuple #[.agg #[.string ⟨#[]⟩, .string ⟨#[]⟩], .int .i64 0, .bool false])
  | some (e, n) => .returned (.tuple #[.agg #[.string e.command, .string e.reply], .int .i64 (n : Int), .bool true])

set_option maxRecDepth 100000 in
set_option maxHeartbeats 1000000 in
theorem readRecord_any (s : ByteArray) (k : Nat) (w : World) (hs : s.size ≤ 3000000) (hk : k ≤ 1000000) (hg : Gl w) :
    Calls Tryz.prog 113 #[.string s, .int .i64 (k : Int)] w fun x w' => x = retR (nextR k s) ∧ Below w.heap.size w w' := by
  have z1 := upto_size 10 s
  have z2 := upto_size 35 (upto 10 s)
  have z3 := past_size 32 (upto 35 (upto 10 s))
  have z4 := upto_size 64 (past 32 (upto 35 (upto 10 s)))
  have z5 := past_size 64 (past 32 (upto 35 (upto 10 s)))
  go_enter Tryz.func113, Tryz.ntmps113
  go_wp2_with fail
  have K0 : Below w.heap.size w (w.alloc (.cells #[.string ⟨#[]⟩, .string ⟨#[]⟩] 69)) := (Below.refl _ _).alloc (Nat.le_refl _) _
  have B0 : Blk (w.alloc (.cells #[.string ⟨#[]⟩, .string ⟨#[]⟩] 69)) w.heap.size 69 [.string ⟨#[]⟩, .string ⟨#[]⟩] := Blk.at_ rfl
  refine (Cut_any s 10 _ (by omega) (hg.next K0)).mono ?_
  rintro e w1 ⟨rfl, q1⟩
  have K1 := bel_quiet K0 q1
  have B1 := B0.quiet q1
  go_wp2_with fail
  refine (Cut_any (upto 10 s) 35 _ (by omega) (hg.next K1)).mono ?_
  rintro e w2 ⟨rfl, q2⟩
  have K2 := bel_quiet K1 q2
  have B2 := B1.quiet q2
  go_wp2_with fail
  refine (Cut_any (upto 35 (upto 10 s)) 32 _ (by omega) (hg.next K2)).mono ?_
  rintro e w3 ⟨rfl, q3⟩
  have K3 := bel_quiet K2 q3
  have B3 := B2.quiet q3
  go_wp2_with fail
  refine (Cut_any (past 32 (upto 35 (upto 10 s))) 64 _ (by omega) (hg.next K3)).mono ?_
  rintro e w4 ⟨rfl, q4⟩
  have K4 := bel_quiet K3 q4
  have B4 := B3.quiet q4


  have HC := Lib.hid (show candR (upto 10 s) = ⟨upto 64 (past 32 (upto 35 (upto 10 s))), past 64 (past 32 (upto 35 (upto 10 s)))⟩ from rfl)
  generalize upto 64 (past 32 (upto 35 (upto 10 s))) = c at *
  generalize past 64 (past 32 (upto 35 (upto 10 s))) = r at *
  have hu : (⟨c, r⟩ : LogRecord).upto 9223372036854775807 := by unfold LogRecord.upto; exact ⟨by show c.size ≤ _; omega, by show r.size ≤ _; omega⟩
  have HU := Lib.hid hu
  clear hu
  have hz10 : (upto 10 s).size + 1 ≤ 9223372036854775807 := by omega
  have K5 : Below w.heap.size w (w4.alloc (.cells #[.string c, .string r] 69)) := bel_then K4 ((Below.refl _ _).alloc (Nat.le_refl _) _)
  have B5 : Blk (w4.alloc (.cells #[.string c, .string r] 69)) w.heap.size 69 [.string ⟨#[]⟩, .string ⟨#[]⟩] := B4.alloc _
  have C5 : Blk (w4.alloc (.cells #[.string c, .string r] 69)) w4.heap.size 69 [.string c, .string r] := Blk.at_ rfl
  have b5c := B5.cell
  have b5f := B5.frozen
  cases g : hasC 10 s
  · have HR := Lib.hid (show nextR k s = none by unfold nextR; rw [g, if_neg (by simp)])
    go_wp2_with fail
    refine bodyPost_ret (v := .tuple #[.agg #[.string ⟨#[]⟩, .string ⟨#[]⟩], .int .i64 0, .bool false]) (by simp [results, Tryz.results113, go_sem, b5c]) rfl ?_
    exact ⟨by rw [HR.out]; rfl, (K5.setCell (p := ⟨w.heap.size, 0, none⟩) (Nat.le_refl _) _).setCell (p := ⟨w.heap.size, 1, none⟩) (Nat.le_refl _) _⟩
  · by_cases hk6 : 60 ≤ k
    · have HR := Lib.hid (show nextR k s = none by unfold nextR; rw [if_neg (by omega)])
      go_wp2_with fail
      refine bodyPost_ret (v := .tuple #[.agg #[.string ⟨#[]⟩, .string ⟨#[]⟩], .int .i64 0, .bool false]) (by simp [results, Tryz.results113, go_sem, b5c]) rfl ?_
      exact ⟨by rw [HR.out]; rfl, (K5.setCell (p := ⟨w.heap.size, 0, none⟩) (Nat.le_refl _) _).setCell (p := ⟨w.heap.size, 1, none⟩) (Nat.le_refl _) _⟩
    · have HN := Lib.hid (show nextR k s = (okR k (upto 10 s)).map fun e => (e, (upto 10 s).size + 1) by unfold nextR; rw [g, if_pos ⟨rfl, by omega⟩])
      go_wp2_with fail
      refine (IsValidRecord_any ⟨c, r⟩ _ HU.out).mono ?_
      cases g2 : recB ⟨c, r⟩
      · rintro e w6 ⟨rfl, b6⟩
        have HR := Lib.hid (show nextR k s = none by rw [HN.out, okR, HC.out, g2, if_neg (by simp)]; rfl)
        have K6 := bel_then K5 b6
        have B6 := B5.next b6
        have b6c := B6.cell
        have b6f := B6.frozen
        clear b5c b5f
        go_wp2_with fail
        refine bodyPost_ret (v := .tuple #[.agg #[.string ⟨#[]⟩, .string ⟨#[]⟩], .int .i64 0, .bool false]) (by simp [results, Tryz.results113, go_sem, b6c]) rfl ?_
        exact ⟨by rw [HR.out]; rfl, (K6.setCell (p := ⟨w.heap.size, 0, none⟩) (Nat.le_refl _) _).setCell (p := ⟨w.heap.size, 1, none⟩) (Nat.le_refl _) _⟩
      · rintro e w6 ⟨rfl, b6⟩
        have K6 := bel_then K5 b6
        have B6 := B5.next b6
        have C6 := C5.next b6
        have c6c := C6.cell
        clear b5c b5f
        have HG2 := Lib.hid g2
        clear g2
        go_wp2_with fail
        refine (encodeRecord_any k ⟨c, r⟩ _ (by omega) HG2.out (hg.next K6)).mono ?_
        rintro e w7 ⟨rfl, b7⟩
        have K7 := bel_then K6 b7
        have B7 := B6.next b7
        have C7 := C6.next b7
        have b7c := B7.cell
        have b7f := B7.frozen
        have c7c := C7.cell
        clear c6c
        by_cases g3 : lineT k ⟨c, r⟩ = upto 10 s ++ ⟨#[10]⟩
        · have hbe : ((lineT k ⟨c, r⟩).toList == (upto 10 s ++ ⟨#[10]⟩).toList) = true := by rw [str_beq, decide_eq_true g3]
          have hbd : decide (lineT k ⟨c, r⟩ = upto 10 s ++ ⟨#[10]⟩) = true := decide_eq_true g3
          have HR := Lib.hid (show nextR k s = some (⟨c, r⟩, (upto 10 s).size + 1) by rw [HN.out, okR, HC.out, if_pos ⟨HG2.out, g3⟩]; rfl)
          clear g3
          go_wp2_with fail
          refine bodyPost_ret (v := .tuple #[.agg #[.string c, .string r], .int .i64 (((upto 10 s).size + 1 : Nat) : Int), .bool true]) (by simp [results, Tryz.results113, go_sem, b7c]) rfl ?_
          exact ⟨by rw [HR.out]; rfl, (K7.setCell (p := ⟨w.heap.size, 0, none⟩) (Nat.le_refl _) _).setCell (p := ⟨w.heap.size, 1, none⟩) (Nat.le_refl _) _⟩
        · have hbe : ((lineT k ⟨c, r⟩).toList == (upto 10 s ++ ⟨#[10]⟩).toList) = false := by rw [str_beq, decide_eq_false g3]
          have hbd : decide (lineT k ⟨c, r⟩ = upto 10 s ++ ⟨#[10]⟩) = false := decide_eq_false g3
          have HR := Lib.hid (show nextR k s = none by rw [HN.out, okR, HC.out, if_neg (fun h => g3 h.2)]; rfl)
          clear g3
          go_wp2_with fail
          refine bodyPost_ret (v := .tuple #[.agg #[.string ⟨#[]⟩, .string ⟨#[]⟩], .int .i64 0, .bool false]) (by simp [results, Tryz.results113, go_sem, b7c]) rfl ?_
          exact ⟨by rw [HR.out]; rfl, (K7.setCell (p := ⟨w.heap.size, 0, none⟩) (Nat.le_refl _) _).setCell (p := ⟨w.heap.size, 1, none⟩) (Nat.le_refl _) _⟩

theorem l1Split_first (s : ByteArray) (b : UInt8) (z : Int) (w : World) (hz : z = (b.toNat : Int)) (hs : s.size ≤ 3000000) :
    Calls Tryz.prog 55 #[.string s, .int .u8 z] w fun e w' => ∃ g n c, e = .returned (.slice (some ⟨g, 0, none⟩) n c) ∧ w'.cell? ⟨g, 0, none⟩ = some (.string (upto b s)) ∧ 1 ≤ n ∧ decide (2 ≤ n) = hasC b s ∧ (w.heap.size ≤ g ∧ g < w'.heap.size) ∧ Below w.heap.size w w' := by
  refine (l1Split_any s b z w hz hs).mono ?_
  rintro e w' ⟨A, n, c, L, rfl, hn, ho, h0, h2, hb⟩
  cases L with
  | nil => cases h0
  | cons x L =>
    have hx : x = upto b s := by simpa using h0
    rcases own_open ho with ⟨_, h3, _⟩ | ⟨g, cur, rfl, h9, h4, _, _, _, h5⟩
    · simp at hn; omega
    · refine ⟨g, n, c, rfl, ?_, by simp at hn; omega, h2, ⟨h9, h4.lt⟩, hb⟩
      rw [h4.cell]
      have h6 := congrArg (fun l => l[0]?) h5
      simp only [List.getElem?_take] at h6
      rw [if_pos (by simp at hn; omega)] at h6
      rw [h6, strs, List.map_cons, hx]; rfl
theorem take_left (a b : ByteArray) : (a ++ b).extract 0 a.size = a ∧ (a ++ b).extract a.size (a ++ b).size = b := by
  refine ⟨ByteArray.ext (Array.toList_inj.1 ?_), ByteArray.ext (Array.toList_inj.1 ?_)⟩
  · simp [← ByteArray.size_data]
  · simp [← ByteArray.size_data]
theorem join_parts (s : ByteArray) (k : Nat) (_ : k ≤ s.size) : s.extract 0 k ++ s.extract k s.size = s := by
  refine ByteArray.ext (Array.toList_inj.1 ?_)
  simp
/-- what the reference's reading rests on -/
def aheadT (k : Nat) : ByteArray := numT k ++ ⟨#[32]⟩
theorem okR_ahead {k : Nat} {line : ByteArray} {e : LogRecord} (h : okR k line = some e) : upto 35 line = aheadT k ++ (e.command ++ ⟨#[64]⟩ ++ e.reply) ∧ hasC 64 (e.command ++ ⟨#[64]⟩ ++ e.reply) = true := by
  obtain ⟨h1, h2⟩ := okR_some h
  obtain ⟨_, h3, _⟩ := candR_line h1 h2
  refine ⟨?_, (cut_join (recB_facts h1).2.2.2.2).2.2⟩
  rw [h3, bodyT, aheadT]
  simp only [ByteArray.append_assoc]
theorem okR_short {k : Nat} {line : ByteArray} (h : (upto 35 line).size < (aheadT k).size) : okR k line = none := by
  cases g : okR k line with
  | none => rfl
  | some e =>
    have := congrArg ByteArray.size (okR_ahead g).1
    rw [ByteArray.size_append] at this
    omega
theorem okR_other {k : Nat} {line : ByteArray} (h : (upto 35 line).extract 0 (aheadT k).size ≠ aheadT k) : okR k line = none := by
  cases g : okR k line with
  | none => rfl
  | some e => exact absurd (by rw [(okR_ahead g).1]; exact (take_left _ _).1) h
theorem okR_rest {k : Nat} {line : ByteArray} (h0 : (aheadT k).size ≤ (upto 35 line).size) (h : (upto 35 line).extract 0 (aheadT k).size = aheadT k) : past 32 (upto 35 line) = (upto 35 line).extract (aheadT k).size (upto 35 line).size := by
  have h1 := join_parts (upto 35 line) _ h0
  rw [h] at h1
  have h2 := (cut_join (q := (upto 35 line).extract (aheadT k).size (upto 35 line).size) (hasC_num 32 k (by decide))).2.1
  unfold aheadT at h1 h2 ⊢
  rw [h1] at h2
  exact h2
theorem okR_noat {k : Nat} {line : ByteArray} (h : hasC 64 (past 32 (upto 35 line)) = false) : okR k line = none := by
  cases g : okR k line with
  | none => rfl
  | some e =>
    obtain ⟨h1, h2⟩ := okR_some g
    rw [(candR_line h1 h2).2.2, (okR_ahead g).2] at h
    cases h
theorem upto_full {b : UInt8} {s : ByteArray} : ((upto b s).size = s.size ↔ hasC b s = false) := by
  constructor
  · intro h
    rw [← Bool.not_eq_true]
    intro h1
    have h2 := congrArg ByteArray.size (cut_split h1)
    have h3 : (⟨#[b]⟩ : ByteArray).size = 1 := rfl
    rw [ByteArray.size_append, ByteArray.size_append] at h2
    omega
  · intro h; rw [upto_none h]
theorem past_extract {b : UInt8} {s : ByteArray} (h : hasC b s = true) : s.extract ((upto b s).size + 1) s.size = past b s := by
  have h2 := cut_split h
  have h3 : (⟨#[b]⟩ : ByteArray).size = 1 := rfl
  have h4 := (take_left (upto b s ++ ⟨#[b]⟩) (past b s)).2
  rw [ByteArray.size_append, h3, ← h2] at h4
  exact h4

end Go.Proofs.YtflpcdffmpfdpaaGreatDoor

namespace Go.Proofs.YtflpcdffmpfdpaaGreatDoor
open Go.RowKit

def GivesRead (w : World) (o : Option LogRecord) (x : Ending) (w' : World) : Prop := ∃ c r : ByteArray, x = .returned (.tuple #[.agg #[.string c, .string r], .bool o.isSome]) ∧ (∀ e, o = some e → e = ⟨c, r⟩) ∧ Below w.heap.size w w'

set_option maxRecDepth 100000 in
set_option maxHeartbeats 2000000 in
theorem l27Read_any (s : ByteArray) (k : Nat) (w : World) (hs : s.size ≤ 3000000) (hk : k < 100) :
    Calls Tryz.prog 148 #[.string s, .int .i64 (k : Int)] w (GivesRead w (okR k s)) := by
  have z2 := upto_size 35 s
  have zk := numT_size k 2 (by omega) (by decide)
  have z0 : (⟨#[32]⟩ : ByteArray).size = 1 := rfl
  have za : (aheadT k).size ≤ 3 := by unfold aheadT; rw [ByteArray.size_append]; omega
  have HA := Lib.hid (show numT k ++ ⟨#[32]⟩ = aheadT k from rfl)
  have K0 : Below w.heap.size w (w.alloc (.cells #[.string ⟨#[]⟩, .string ⟨#[]⟩] 69)) := (Below.refl _ _).alloc (Nat.le_refl _) _
  have B0 : Blk (w.alloc (.cells #[.string ⟨#[]⟩, .string ⟨#[]⟩] 69)) w.heap.size 69 [.string ⟨#[]⟩, .string ⟨#[]⟩] := Blk.at_ rfl
  have fe : ¬ 9223372036854775807 < (numT k).size + 1 := by omega
  go_enter Tryz.func148, Tryz.ntmps148
  go_wp2_with fail
  refine (l1Num_any k _ (by omega)).mono ?_
  rintro e w1 ⟨rfl, q1⟩
  have K1 := bel_quiet K0 q1
  have B1 := B0.quiet q1
  go_wp2_with fail
  refine (l1Split_first s 35 _ _ rfl hs).mono ?_
  rintro e w2 ⟨g1, n1, c1, rfl, x1, l1, _, lt1, b2⟩
  have K2 := bel_then K1 b2
  have B2 := B1.next b2
  have b2c := B2.cell
  have b2f := B2.frozen
  rw [HA.out]
  have HT1 := Lib.hid (fun h => @okR_short k s h)
  have HT2 := Lib.hid (fun h => @okR_other k s h)
  have HT3 := Lib.hid (fun h0 h => @okR_rest k s h0 h)
  have HT4 := Lib.hid (fun h => @okR_noat k s h)
  have HO := Lib.hid (show okR k s = if recB ⟨upto 64 (past 32 (upto 35 s)), past 64 (past 32 (upto 35 s))⟩ = true ∧ lineT k ⟨upto 64 (past 32 (upto 35 s)), past 64 (past 32 (upto 35 s))⟩ = s ++ ⟨#[10]⟩ then some ⟨upto 64 (past 32 (upto 35 s)), past 64 (past 32 (upto 35 s))⟩ else none from rfl)
  generalize upto 35 s = t at *
  generalize aheadT k = a at *
  by_cases h1 : t.size < a.size
  · have HR := Lib.hid (HT1.out h1)
    go_wp2_with fail
    refine bodyPost_ret (v := .tuple #[.agg #[.string ⟨#[]⟩, .string ⟨#[]⟩], .bool false]) (by simp [results, Tryz.results148, go_sem, b2c]) rfl ?_
    exact ⟨_, _, by rw [HR.out]; rfl, (by rw [HR.out]; exact (fun _ h => by cases h)), (K2.setCell (p := ⟨w.heap.size, 0, none⟩) (Nat.le_refl _) _).setCell (p := ⟨w.heap.size, 1, none⟩) (Nat.le_refl _) _⟩
  · by_cases h2 : t.extract 0 a.size = a
    · have hbe : ((t.extract 0 a.size).toList == a.toList) = true := by rw [str_beq, decide_eq_true h2]
      have hbd : decide (t.extract 0 a.size = a) = true := decide_eq_true h2
      have h0 : a.size ≤ t.size := by omega
      have h3 := HT3.out h0 h2
      rw [h3] at HT4 HO
      have zr : (t.extract a.size t.size).size ≤ 3000000 := by simp; omega
      have z5 := upto_size 64 (t.extract a.size t.size)
      have z6 := past_size 64 (t.extract a.size t.size)
      have H2 := Lib.hid h2
      clear h3 HT1 HT2 HT3 h2
      go_wp2_with fail
      refine (l1Split_first (t.extract a.size t.size) 64 _ _ rfl zr).mono ?_
      rintro e w3 ⟨g2, n2, c2, rfl, x2, l2, _, lt2, b3⟩
      generalize t.extract a.size t.size = u at *
      have K3 := bel_then K2 b3
      have B3 := B2.next b3
      have b3c := B3.cell
      have b3f := B3.frozen
      clear b2c b2f
      cases g : hasC 64 u
      · have HR := Lib.hid (HT4.out g)
        have hu := upto_full.2 g
        have hz : (((upto 64 u).size : Int) == (u.size : Int)) = true := by rw [hu]; simp
        clear hu
        go_wp2_with fail
        refine bodyPost_ret (v := .tuple #[.agg #[.string ⟨#[]⟩, .string ⟨#[]⟩], .bool false]) (by simp [results, Tryz.results148, go_sem, b3c]) rfl ?_
        exact ⟨_, _, by rw [HR.out]; rfl, (by rw [HR.out]; exact (fun _ h => by cases h)), (K3.setCell (p := ⟨w.heap.size, 0, none⟩) (Nat.le_refl _) _).setCell (p := ⟨w.heap.size, 1, none⟩) (Nat.le_refl _) _⟩
      · have hne : (upto 64 u).size ≠ u.size := fun h => by rw [upto_full.1 h] at g; cases g
        have hz : (((upto 64 u).size : Int) == (u.size : Int)) = false := by rw [beq_eq_false_iff_ne]; omega
        have HP := Lib.hid (past_extract g)
        have hlt : (upto 64 u).size + 1 ≤ u.size := by omega
        clear hne g
        go_wp2_with fail
        rw [HP.out]
        generalize upto 64 u = c at *
        generalize past 64 u = r at *
        have HU := Lib.hid (show (⟨c, r⟩ : LogRecord).upto 9223372036854775807 by unfold LogRecord.upto; exact ⟨by show c.size ≤ _; omega, by show r.size ≤ _; omega⟩)
        clear b3c b3f hz HT4 x2 x1 HP
        have K4 : Below w.heap.size w (w3.alloc (.cells #[.string c, .string r] 69)).drew := bel_then K3 (bel_then ((Below.refl _ _).alloc (Nat.le_refl _) _) ((Quiet.one _).below _))
        have B4 : Blk (w3.alloc (.cells #[.string c, .string r] 69)).drew w.heap.size 69 [.string ⟨#[]⟩, .string ⟨#[]⟩] := (B3.alloc _).quiet (Quiet.one _)
        have C4 : Blk (w3.alloc (.cells #[.string c, .string r] 69)).drew w3.heap.size 69 [.string c, .string r] := (Blk.at_ rfl : Blk (w3.alloc (.cells #[.string c, .string r] 69)) w3.heap.size 69 [.string c, .string r]).quiet (Quiet.one _)
        have c4c := C4.cell
        have hgg : w3.heap.size ≠ w.heap.size := fun h => by have := B3.lt; omega
        have fs : ¬ 9223372036854775807 < s.size + 1 := by omega
        cases g2' : recB ⟨c, r⟩
        · have HR := Lib.hid (show okR k s = none by rw [HO.out, g2', if_neg (by simp)])
          have HG2 := Lib.hid g2'
          clear g2'
          refine wp_region_held_drew (S := fun w' => w'.cell? ⟨w3.heap.size, 0, none⟩ = some (.string c) ∧ w'.cell? ⟨w3.heap.size, 1, none⟩ = some (.string r)) (by kernel_rfl) (by (try dsimp only); go_keep) (fun hH => ?_)
          refine wQ 0 ?_
          refine wQ 1 ?_
          refine wR (rs := [2]) (by kernel_rfl) (by simp) ?_
          refine aC rfl (fun K hK => ?_) aN
          go_simp
          refine (l27Good_any ⟨c, r⟩ _ HU.out).mono ?_
          rw [HG2.out]
          rintro e w5 ⟨rfl, b5⟩
          have K5 := bel_then K4 b5
          have B5 := B4.next b5
          have C5 := C4.next b5
          have c5c := C5.cell
          clear c4c
          have b5c := B5.cell
          have b5f := B5.frozen

          go_wp2_with fail
          refine hK.out _ _ (by (try dsimp only); go_keep) (fun hH => ?_)
          clear hK K
          refine wQ 3 ?_
          refine wU 4 ?_
          refine wU 5 ?_
          refine wU 6 ?_
          refine wU 7 ?_
          refine wU 8 ?_
          refine wU 9 ?_
          refine wQ 10 ?_
          refine wR (rs := [11]) (by kernel_rfl) (by simp) ?_
          refine aC rfl (fun K hK => ?_) aN
          go_simp
          refine hK.out _ _ (by (try dsimp only); exact ⟨((C5.far (p := ⟨w.heap.size, 0, none⟩) hgg _).far (p := ⟨w.heap.size, 1, none⟩) hgg _).cell 0, ((C5.far (p := ⟨w.heap.size, 0, none⟩) hgg _).far (p := ⟨w.heap.size, 1, none⟩) hgg _).cell 1⟩) (fun hH => ?_)
          clear hK K
          try simp only [Act.put, pX]
          refine wQ 12 ?_
          refine wD (by kernel_rfl) ?_ _
          go_wp2_with fail
          refine bodyPost_ret (v := .tuple #[.agg #[.string c, .string r], .bool false]) (by simp [results, Tryz.results148, go_sem, b5c]) rfl ?_
          exact ⟨_, _, by rw [HR.out]; rfl, (by rw [HR.out]; exact (fun _ h => by cases h)), (K5.setCell (p := ⟨w.heap.size, 0, none⟩) (Nat.le_refl _) _).setCell (p := ⟨w.heap.size, 1, none⟩) (Nat.le_refl _) _⟩
        · have HG2 := Lib.hid g2'
          clear g2'
          by_cases g3 : lineT k ⟨c, r⟩ = s ++ ⟨#[10]⟩
          · have hbe2 : ((lineT k ⟨c, r⟩).toList == (s ++ ⟨#[10]⟩).toList) = true := by rw [str_beq, decide_eq_true g3]
            have hbd2 : decide (lineT k ⟨c, r⟩ = s ++ ⟨#[10]⟩) = true := decide_eq_true g3
            have HR := Lib.hid (show okR k s = some ⟨c, r⟩ by rw [HO.out, if_pos ⟨HG2.out, g3⟩])
            clear g3
            refine wp_region_held_drew (S := fun w' => w'.cell? ⟨w3.heap.size, 0, none⟩ = some (.string c) ∧ w'.cell? ⟨w3.heap.size, 1, none⟩ = some (.string r)) (by kernel_rfl) (by (try dsimp only); go_keep) (fun hH => ?_)
            refine wQ 0 ?_
            refine wQ 1 ?_
            refine wR (rs := [2]) (by kernel_rfl) (by simp) ?_
            refine aC rfl (fun K hK => ?_) aN
            go_simp
            refine (l27Good_any ⟨c, r⟩ _ HU.out).mono ?_
            rw [HG2.out]
            rintro e w5 ⟨rfl, b5⟩
            have K5 := bel_then K4 b5
            have B5 := B4.next b5
            have C5 := C4.next b5
            have c5c := C5.cell
            clear c4c

            go_wp2_with fail
            refine hK.out _ _ (by (try dsimp only); go_keep) (fun hH => ?_)
            clear hK K
            refine wQ 3 ?_
            refine wQ 4 ?_
            refine wQ 5 ?_
            refine wQ 7 ?_
            refine wQ 8 ?_
            refine wR (rs := [6]) (by kernel_rfl) (by simp) ?_
            refine aC rfl (fun K hK => ?_) aN
            go_simp
            refine (l27Line_any k ⟨c, r⟩ _ (by omega) HG2.out).mono ?_
            rintro e w6 ⟨rfl, b6⟩
            have K6 := bel_then K5 b6
            have B6 := B5.next b6
            have C6 := C5.next b6
            have c6c := C6.cell
            clear c5c
            have b6c := B6.cell
            have b6f := B6.frozen

            go_wp2_with fail
            refine hK.out _ _ (by (try dsimp only); go_keep) (fun hH => ?_)
            clear hK K
            refine wQ 9 ?_
            refine wQ 10 ?_
            refine wR (rs := [11]) (by kernel_rfl) (by simp) ?_
            refine aC rfl (fun K hK => ?_) aN
            go_simp
            refine hK.out _ _ (by (try dsimp only); exact ⟨((C6.far (p := ⟨w.heap.size, 0, none⟩) hgg _).far (p := ⟨w.heap.size, 1, none⟩) hgg _).cell 0, ((C6.far (p := ⟨w.heap.size, 0, none⟩) hgg _).far (p := ⟨w.heap.size, 1, none⟩) hgg _).cell 1⟩) (fun hH => ?_)
            clear hK K
            try simp only [Act.put, pX]
            refine wQ 12 ?_
            refine wD (by kernel_rfl) ?_ _
            go_wp2_with fail
            refine bodyPost_ret (v := .tuple #[.agg #[.string c, .string r], .bool true]) (by simp [results, Tryz.results148, go_sem, b6c]) rfl ?_
            exact ⟨_, _, by rw [HR.out]; rfl, (by rw [HR.out]; exact fun _ h => (Option.some.inj h).symm), (K6.setCell (p := ⟨w.heap.size, 0, none⟩) (Nat.le_refl _) _).setCell (p := ⟨w.heap.size, 1, none⟩) (Nat.le_refl _) _⟩
          · have hbe2 : ((lineT k ⟨c, r⟩).toList == (s ++ ⟨#[10]⟩).toList) = false := by rw [str_beq, decide_eq_false g3]
            have hbd2 : decide (lineT k ⟨c, r⟩ = s ++ ⟨#[10]⟩) = false := decide_eq_false g3
            have HR := Lib.hid (show okR k s = none by rw [HO.out, if_neg (fun h => g3 h.2)])
            clear g3
            refine wp_region_held_drew (S := fun w' => w'.cell? ⟨w3.heap.size, 0, none⟩ = some (.string c) ∧ w'.cell? ⟨w3.heap.size, 1, none⟩ = some (.string r)) (by kernel_rfl) (by (try dsimp only); go_keep) (fun hH => ?_)
            refine wQ 0 ?_
            refine wQ 1 ?_
            refine wR (rs := [2]) (by kernel_rfl) (by simp) ?_
            refine aC rfl (fun K hK => ?_) aN
            go_simp
            refine (l27Good_any ⟨c, r⟩ _ HU.out).mono ?_
            rw [HG2.out]
            rintro e w5 ⟨rfl, b5⟩
            have K5 := bel_then K4 b5
            have B5 := B4.next b5
            have C5 := C4.next b5
            have c5c := C5.cell
            clear c4c

            go_wp2_with fail
            refine hK.out _ _ (by (try dsimp only); go_keep) (fun hH => ?_)
            clear hK K
            refine wQ 3 ?_
            refine wQ 4 ?_
            refine wQ 5 ?_
            refine wQ 7 ?_
            refine wQ 8 ?_
            refine wR (rs := [6]) (by kernel_rfl) (by simp) ?_
            refine aC rfl (fun K hK => ?_) aN
            go_simp
            refine (l27Line_any k ⟨c, r⟩ _ (by omega) HG2.out).mono ?_
            rintro e w6 ⟨rfl, b6⟩
            have K6 := bel_then K5 b6
            have B6 := B5.next b6
            have C6 := C5.next b6
            have c6c := C6.cell
            clear c5c
            have b6c := B6.cell
            have b6f := B6.frozen

            go_wp2_with fail
            refine hK.out _ _ (by (try dsimp only); go_keep) (fun hH => ?_)
            clear hK K
            refine wQ 9 ?_
            refine wQ 10 ?_
            refine wR (rs := [11]) (by kernel_rfl) (by simp) ?_
            refine aC rfl (fun K hK => ?_) aN
            go_simp
            refine hK.out _ _ (by (try dsimp only); exact ⟨((C6.far (p := ⟨w.heap.size, 0, none⟩) hgg _).far (p := ⟨w.heap.size, 1, none⟩) hgg _).cell 0, ((C6.far (p := ⟨w.heap.size, 0, none⟩) hgg _).far (p := ⟨w.heap.size, 1, none⟩) hgg _).cell 1⟩) (fun hH => ?_)
            clear hK K
            try simp only [Act.put, pX]
            refine wQ 12 ?_
            refine wD (by kernel_rfl) ?_ _
            go_wp2_with fail
            refine bodyPost_ret (v := .tuple #[.agg #[.string c, .string r], .bool false]) (by simp [results, Tryz.results148, go_sem, b6c]) rfl ?_
            exact ⟨_, _, by rw [HR.out]; rfl, (by rw [HR.out]; exact (fun _ h => by cases h)), (K6.setCell (p := ⟨w.heap.size, 0, none⟩) (Nat.le_refl _) _).setCell (p := ⟨w.heap.size, 1, none⟩) (Nat.le_refl _) _⟩
    · have hbe : ((t.extract 0 a.size).toList == a.toList) = false := by rw [str_beq, decide_eq_false h2]
      have hbd : decide (t.extract 0 a.size = a) = false := decide_eq_false h2
      have HR := Lib.hid (HT2.out h2)
      clear h2
      go_wp2_with fail
      refine bodyPost_ret (v := .tuple #[.agg #[.string ⟨#[]⟩, .string ⟨#[]⟩], .bool false]) (by simp [results, Tryz.results148, go_sem, b2c]) rfl ?_
      exact ⟨_, _, by rw [HR.out]; rfl, (by rw [HR.out]; exact (fun _ h => by cases h)), (K2.setCell (p := ⟨w.heap.size, 0, none⟩) (Nat.le_refl _) _).setCell (p := ⟨w.heap.size, 1, none⟩) (Nat.le_refl _) _⟩

end Go.Proofs.YtflpcdffmpfdpaaGreatDoor
