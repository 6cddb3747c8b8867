/- All records at the beginning of a text. -/
import Derived.Test.YtlhebjlibhpanaaDoorRead2
namespace Go.Proofs.YtlhebjlibhpanaaDoor
open Go.RowKit

structure Recs where
  l : List LogRecord
  ends : List Nat
  at_ : Nat
def runR (s : ByteArray) : Nat → Recs → Recs
  | 0, x => x
  | f + 1, x => match nextR x.l.length (s.extract x.at_ s.size) with
    | none => x
    | some (e, n) => runR s f ⟨x.l ++ [e], x.ends ++ [x.at_ + n], x.at_ + n⟩
@[irreducible] def allR (s : ByteArray) : Recs := runR s 61 ⟨[], [0], 0⟩
theorem allR_start (s : ByteArray) : runR s 61 ⟨[], [0], 0⟩ = allR s := by unfold allR; rfl
theorem runR_none {s : ByteArray} {x : Recs} (h : nextR x.l.length (s.extract x.at_ s.size) = none) (f : Nat) : runR s f x = x := by
  cases f with
  | zero => rfl
  | succ f => rw [runR, h]
theorem runR_some {s : ByteArray} {x : Recs} {e : LogRecord} {n : Nat} (h : nextR x.l.length (s.extract x.at_ s.size) = some (e, n)) (f : Nat) : runR s (f + 1) x = runR s f ⟨x.l ++ [e], x.ends ++ [x.at_ + n], x.at_ + n⟩ := by
  rw [runR, h]
theorem nextR_some {k n : Nat} {s : ByteArray} {e : LogRecord} (h : nextR k s = some (e, n)) : hasC 10 s = true ∧ k < 60 ∧ okR k (upto 10 s) = some e ∧ n = (upto 10 s).size + 1 ∧ n ≤ s.size := by
  unfold nextR at h
  split at h
  · rename_i h1
    cases g : okR k (upto 10 s) with
    | none => rw [g] at h; cases h
    | some e' =>
      rw [g] at h
      simp only [Option.map_some, Option.some.injEq, Prod.mk.injEq] at h
      obtain ⟨rfl, rfl⟩ := h
      have h2 := congrArg ByteArray.size (cut_split h1.1)
      have h3 : (⟨#[10]⟩ : ByteArray).size = 1 := rfl
      rw [ByteArray.size_append, ByteArray.size_append] at h2
      exact ⟨h1.1, h1.2, rfl, rfl, by omega⟩
  · cases h
def natV (l : List Nat) : List Value := l.map fun (n : Nat) => Value.int .i64 (n : Int)
def GivesRecs (w : World) (x : Recs) (r : Ending) (w' : World) : Prop := ∃ (A B : Option Addr) (c d : Nat), r = .returned (.tuple #[.slice A x.l.length c, .slice B (x.l.length + 1) d]) ∧
  w'.ownsRow w.heap.size 83 2 (.slice A x.l.length c) x.l.length (x.l.flatMap LogRecord.enc) ∧ w'.ownsRow w.heap.size 3 1 (.slice B (x.l.length + 1) d) (x.l.length + 1) (natV x.ends) ∧ Below w.heap.size w w'
def GivesOpen (w : World) (x : Recs) (r : Ending) (w' : World) : Prop := ∃ (A : Option Addr) (c : Nat), r = .returned (.tuple #[.slice A x.l.length c, .int .i64 (x.at_ : Int)]) ∧
  w'.ownsRow w.heap.size 83 2 (.slice A x.l.length c) x.l.length (x.l.flatMap LogRecord.enc) ∧ Below w.heap.size w w'

set_option maxRecDepth 100000 in
set_option maxHeartbeats 2000000 in
theorem readRecords_any (s : ByteArray) (w : World) (hs : s.size ≤ 3000000) (hg : Gl w) :
    Calls Tryd.prog 30 #[.string s] w (GivesRecs w (allR s)) := by
  go_enter Tryd.func30, Tryd.ntmps30
  go_wp2_with fail
  have k0 : Below w.heap.size w (w.alloc (.cells #[] 83)) := (Below.refl _ _).alloc (Nat.le_refl _) _
  have K0 : Below w.heap.size w ((w.alloc (.cells #[] 83)).alloc (.cells #[.int .i64 0] 3)) := bel_then k0 ((Below.refl _ _).alloc (Nat.le_refl _) _)
  have hownA := own_below (own_empty w 83 2) ((Below.refl (w.alloc (.cells #[] 83)).heap.size (w.alloc (.cells #[] 83))).alloc (Nat.le_refl _) (.cells #[.int .i64 0] 3))
  have hz : (w.alloc (.cells #[] 83)).heap.size = w.heap.size + 1 := by simp
  have hB1 : Blk ((w.alloc (.cells #[] 83)).alloc (.cells #[.int .i64 0] 3)) (w.heap.size + 1) 3 (natV [0]) := Blk.at_ hz
  have hownB : World.ownsRow ((w.alloc (.cells #[] 83)).alloc (.cells #[.int .i64 0] 3)) w.heap.size 3 1 (.slice (some ⟨w.heap.size + 1, 0, none⟩) 1 1) 1 (natV [0]) := hB1.own (by omega) rfl (by decide)
  go_loopw [4, 5, 6] (fun v u a wr => ∃ (L : List LogRecord) (ends : List Nat) (p : Nat) (A B : Option Addr) (c d : Nat), p ≤ s.size ∧ L.length ≤ 60 ∧ ends.length = L.length + 1 ∧ a = .int .i64 p ∧ v = .slice A L.length c ∧ u = .slice B (L.length + 1) d ∧ wr.ownsRow w.heap.size 83 2 (.slice A L.length c) L.length (L.flatMap LogRecord.enc) ∧ wr.ownsRow w.heap.size 3 1 (.slice B (L.length + 1) d) (L.length + 1) (natV ends) ∧ (∀ b, OwnB A b → ¬ OwnB B b) ∧ Hid (runR s (61 - L.length) ⟨L, ends, p⟩ = allR s) ∧ Below w.heap.size w wr) (fun _ _ a _ => s.size - (intOf a).toNat)
  case atStart => exact ⟨[], [0], 0, _, _, _, _, Nat.zero_le _, by decide, rfl, rfl, rfl, by first | rfl | simp, hownA, by first | exact hownB | simpa using hownB, fun b h1 h2 => by simp [OwnB, Value.ownBlock] at h1 h2; omega, Lib.hid (allR_start s), K0⟩
  case round =>
    obtain ⟨L, ends, p, A, B, c, d, hp, hL, hE, rfl, rfl, rfl, hA, hB, hdis, HI, hb⟩ := hrel
    have zx : (s.extract p s.size).size = s.size - p := by simp
    go_wp2_with fail
    refine (readRecord_any (s.extract p s.size) L.length _ (by omega) (by omega) (hg.next hb)).mono ?_
    cases g : nextR L.length (s.extract p s.size) with
    | none =>
      rintro e w1 ⟨he, b1⟩
      rw [retR] at he
      subst he
      have HE := Lib.hid (show allR s = ⟨L, ends, p⟩ from HI.out.symm.trans (runR_none (x := ⟨L, ends, p⟩) g _))
      clear g HI
      go_wp2_with fail
      have b2 : Below wr.heap.size wr (w1.alloc (.cells #[.string ⟨#[]⟩, .string ⟨#[]⟩] 83)) := bel_then b1 ((Below.refl _ _).alloc (Nat.le_refl _) _)
      go_ret2
      rw [HE.out]
      exact ⟨A, B, c, d, rfl, own_below hA b2, own_below hB b2, hb.trans (b2.mono hb.size)⟩
    | some r =>
      obtain ⟨e, n⟩ := r
      have hk6 := (nextR_some g).2.1
      have hn := (nextR_some g).2.2.2.2
      have hn1 : 1 ≤ n := by have := (nextR_some g).2.2.2.1; omega
      rintro x w1 ⟨he, b1⟩
      rw [retR] at he
      subst he
      have HN := Lib.hid (show runR s (61 - (L ++ [e]).length) ⟨L ++ [e], ends ++ [p + n], p + n⟩ = allR s by
        have h1 : 61 - L.length = (61 - (L ++ [e]).length) + 1 := by simp; omega
        have h2 := HI.out
        rw [h1] at h2
        exact (runR_some (x := ⟨L, ends, p⟩) g _).symm.trans h2)
      clear g HI
      have HM := Lib.hid hdis
      clear hdis
      have b2 : Below wr.heap.size wr (w1.alloc (.cells #[.string e.command, .string e.reply] 83)) := bel_then b1 ((Below.refl _ _).alloc (Nat.le_refl _) _)
      have hA2 := own_below hA b2
      have hB2 := own_below hB b2
      have K2 : Below w.heap.size w (w1.alloc (.cells #[.string e.command, .string e.reply] 83)) := hb.trans (b2.mono hb.size)
      have hle : w.heap.size ≤ (w1.alloc (.cells #[.string e.command, .string e.reply] 83)).heap.size := K2.size
      have E2 : Blk (w1.alloc (.cells #[.string e.command, .string e.reply] 83)) w1.heap.size 83 [.string e.command, .string e.reply] := Blk.at_ rfl
      have e2c := E2.cell
      have hpn : p + n ≤ s.size := by omega
      have hL9 : L.length ≤ 60 := hL
      go_wp2_with (first | (at_builtin; (refine wpList_pushNew rfl _ _ _ rfl Tryd.underlying63 info_impl_LogRecord rfl (by decide) rfl hA2 rfl (by simp) (by rfl) (by rfl) (by omega) (by decide) hle ?_); intro A3 c3 w3 hown3 ho3 hbb3 hat3) | (at_builtin; (refine wpList_pushNew rfl _ _ _ rfl Tryd.underlying64 info_int rfl (by decide) rfl (own_only hB2 ho3 (fun b h1 h2 => HM.out b h2 h1)) rfl (by simp) (by rfl) (by rfl) (by omega) (by decide) (by have := ho3.size; omega) ?_); intro A4 c4 w4 hown4 ho4 hbb4 hat4))
      go_roundw
      case rel =>
        refine ⟨L ++ [e], ends ++ [p + n], p + n, A3, A4, c3, c4, hpn, by simp; omega, by simp; omega, by go_num, by simp, by simp, ?_, ?_, ?_, HN, ?_⟩
        · have h1 := own_only hown3 ho4 (fun b h1 h2 => ?_)
          · simpa [LogRecord.enc] using h1
          · rcases hat3 b h1 with h3 | h3
            · exact HM.out b h3 h2
            · have := own_top hB2 h2; omega
        · simpa [natV] using hown4
        · intro b h1 h2
          rcases hat4 b h2 with h4 | h4
          · rcases hat3 b h1 with h3 | h3
            · exact HM.out b h3 h4
            · have := own_top hB2 h4; omega
          · have := own_top hown3 h1; omega
        · exact (K2.trans hbb3).trans hbb4
      case measure => simp [intOf]; omega
    
set_option maxRecDepth 100000 in
set_option maxHeartbeats 2000000 in
theorem l27Open_any (s : ByteArray) (w : World) (hs : s.size ≤ 3000000) :
    Calls Tryd.prog 37 #[.string s] w (GivesOpen w (allR s)) := by
  go_enter Tryd.func37, Tryd.ntmps37
  go_wp2_with fail
  have K0 : Below w.heap.size w (w.alloc (.cells #[] 83)) := (Below.refl _ _).alloc (Nat.le_refl _) _
  have hownA := own_empty w 83 2
  go_loopw [4, 5] (fun v a wr => ∃ (L : List LogRecord) (ends : List Nat) (p : Nat) (A : Option Addr) (c : Nat), p ≤ s.size ∧ L.length ≤ 60 ∧ a = .int .i64 p ∧ v = .slice A L.length c ∧ wr.ownsRow w.heap.size 83 2 (.slice A L.length c) L.length (L.flatMap LogRecord.enc) ∧ Hid (runR s (61 - L.length) ⟨L, ends, p⟩ = allR s) ∧ Below w.heap.size w wr) (fun _ a _ => s.size - (intOf a).toNat)
  case atStart => exact ⟨[], [0], 0, _, _, Nat.zero_le _, by decide, rfl, rfl, hownA, Lib.hid (allR_start s), K0⟩
  case round =>
    obtain ⟨L, ends, p, A, c, hp, hL, rfl, rfl, hA, HI, hb⟩ := hrel
    have zx : (s.extract p s.size).size = s.size - p := by simp
    by_cases hlt : p < s.size
    · by_cases h60 : L.length < 60
      · go_wp2_with fail
        refine (l1Split_first (s.extract p s.size) 10 _ _ rfl (by omega)).mono ?_
        rintro x w1 ⟨g1, n1, c1, rfl, x1, l1, l2, ⟨lt0, lt1⟩, b1⟩
        have zu := upto_size 10 (s.extract p s.size)
        go_wp2_with fail
        refine (l27Read_any (upto 10 (s.extract p s.size)) L.length _ (by omega) (by omega)).mono ?_
        rintro x w2 ⟨ec, er, rfl, hE, b2⟩
        have x2 := ((bcell b2).1 g1 0 lt1).trans x1
        have b3 : Below wr.heap.size wr (w2.alloc (.cells #[.string ec, .string er] 83)) := bel_then (bel_then b1 b2) ((Below.refl _ _).alloc (Nat.le_refl _) _)
        have hA2 := own_below hA b3
        have K2 : Below w.heap.size w (w2.alloc (.cells #[.string ec, .string er] 83)) := hb.trans (b3.mono hb.size)
        have hle : w.heap.size ≤ (w2.alloc (.cells #[.string ec, .string er] 83)).heap.size := K2.size
        cases gh : hasC 10 (s.extract p s.size)
        · have hnone : nextR L.length (s.extract p s.size) = none := by unfold nextR; rw [gh, if_neg (by simp)]
          have hn2 : ¬ 2 ≤ n1 := by rw [gh] at l2; simpa using l2
          clear gh l2 hE
          cases okR L.length (upto 10 (s.extract p s.size)) <;> simp only [Option.isSome]
          all_goals (
            have HE := Lib.hid (show allR s = ⟨L, ends, p⟩ from HI.out.symm.trans (runR_none (x := ⟨L, ends, p⟩) hnone _))
            clear hnone HI
            go_wp2_with fail
            go_ret2
            rw [HE.out]
            exact ⟨A, c, rfl, hA2, K2⟩)
        · have hn2 : 2 ≤ n1 := by rw [gh] at l2; simpa using l2
          cases g : okR L.length (upto 10 (s.extract p s.size)) with
          | none =>
            have hnone : nextR L.length (s.extract p s.size) = none := by unfold nextR; rw [gh, if_pos ⟨rfl, h60⟩, g]; rfl
            clear gh l2 hE g
            simp only [Option.isSome]
            have HE := Lib.hid (show allR s = ⟨L, ends, p⟩ from HI.out.symm.trans (runR_none (x := ⟨L, ends, p⟩) hnone _))
            clear hnone HI
            go_wp2_with fail
            go_ret2
            rw [HE.out]
            exact ⟨A, c, rfl, hA2, K2⟩
          | some e =>
            obtain rfl := hE e g
            have hsome : nextR L.length (s.extract p s.size) = some (⟨ec, er⟩, (upto 10 (s.extract p s.size)).size + 1) := by unfold nextR; rw [gh, if_pos ⟨rfl, h60⟩, g]; rfl
            have hn := (nextR_some hsome).2.2.2.2
            have HN := Lib.hid (show runR s (61 - (L ++ [(⟨ec, er⟩ : LogRecord)]).length) ⟨L ++ [⟨ec, er⟩], ends ++ [p + ((upto 10 (s.extract p s.size)).size + 1)], p + ((upto 10 (s.extract p s.size)).size + 1)⟩ = allR s by
              have h1 : 61 - L.length = (61 - (L ++ [(⟨ec, er⟩ : LogRecord)]).length) + 1 := by simp; omega
              have h2 := HI.out
              rw [h1] at h2
              exact (runR_some (x := ⟨L, ends, p⟩) hsome _).symm.trans h2)
            clear hsome HI g gh l2 hE
            simp only [Option.isSome]
            have E2 : Blk (w2.alloc (.cells #[.string ec, .string er] 83)) w2.heap.size 83 [.string ec, .string er] := Blk.at_ rfl
            have e2c := E2.cell
            have hz2 := b2.size
            have hAn : ¬ OwnB A g1 := fun h => by have := own_top hA h; omega
            have x3 : ((w2.alloc (.cells #[.string ec, .string er] 83))).cell? ⟨g1, 0, none⟩ = some (.string (upto 10 (s.extract p s.size))) := by
              rw [(bcell ((Below.refl w2.heap.size w2).alloc (Nat.le_refl _) (.cells #[.string ec, .string er] 83))).1 g1 0 (by omega)]; exact x2
            have hpn : p + ((upto 10 (s.extract p s.size)).size + 1) ≤ s.size := by omega
            go_wp2_with (at_builtin; (refine wpList_pushNew rfl _ _ _ rfl Tryd.underlying63 info_impl_LogRecord rfl (by decide) rfl hA2 rfl (by simp) (by rfl) (by rfl) (by omega) (by decide) hle ?_); intro A3 c3 w3 hown3 ho3 hbb3 hat3; have x4 := (cell_only (o := 0) ho3 hAn (by have := World.block_lt_of_cell? _ _ x3; exact this)).trans x3)
            go_roundw
            case rel =>
              refine ⟨L ++ [⟨ec, er⟩], ends ++ [p + ((upto 10 (s.extract p s.size)).size + 1)], p + ((upto 10 (s.extract p s.size)).size + 1), A3, c3, hpn, by simp; omega, by go_num, by simp, ?_, HN, K2.trans hbb3⟩
              simpa [LogRecord.enc] using hown3
            case measure => simp [intOf]; omega
      · have hnone : nextR L.length (s.extract p s.size) = none := by unfold nextR; rw [if_neg (by omega)]
        have HE := Lib.hid (show allR s = ⟨L, ends, p⟩ from HI.out.symm.trans (runR_none (x := ⟨L, ends, p⟩) hnone _))
        clear hnone HI
        go_wp2_with fail
        go_ret2
        rw [HE.out]
        exact ⟨A, c, rfl, hA, hb⟩
    · have hnone : nextR L.length (s.extract p s.size) = none := by
        unfold nextR
        rw [if_neg]
        rintro ⟨h1, _⟩
        have h2 := congrArg ByteArray.size (cut_split h1)
        have h3 : (⟨#[10]⟩ : ByteArray).size = 1 := rfl
        rw [ByteArray.size_append, ByteArray.size_append] at h2
        omega
      have HE := Lib.hid (show allR s = ⟨L, ends, p⟩ from HI.out.symm.trans (runR_none (x := ⟨L, ends, p⟩) hnone _))
      clear hnone HI
      go_wp2_with fail
      go_ret2
      rw [HE.out]
      exact ⟨A, c, rfl, hA, hb⟩

end Go.Proofs.YtlhebjlibhpanaaDoor
