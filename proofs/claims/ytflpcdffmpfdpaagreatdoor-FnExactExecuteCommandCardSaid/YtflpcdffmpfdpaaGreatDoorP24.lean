/- Joined texts of this proof: LogO, Recov, ValidP, IsVal, SyncL. -/
import Derived.Test.YtflpcdffmpfdpaaGreatDoorP23
import Derived.Test.YtflpcdffmpfdpaaGreatDoorP04
namespace Go.Proofs.YtflpcdffmpfdpaaGreatDoor
open Go.RowKit

structure Recs where
  l : List LogRecord
  ends : List Nat
  at_ : Nat
def runR (s : ByteArray) : Nat → Recs → Recs
  | 0, x => x
  | f + 1, x => match nextR x.l.length (s.extract x.at_ s.size) with
    | none => x
    | some (e, n) => runR s f ⟨x.l ++ [e], x.ends ++ [x.at_ + n], x.at_ + n⟩
@[irreducible] def allR (s : ByteArray) : Recs := runR s 61 ⟨[], [0], 0⟩
theorem allR_start (s : ByteArray) : runR s 61 ⟨[], [0], 0⟩ = allR s := by unfold allR; rfl
theorem runR_none {s : ByteArray} {x : Recs} (h : nextR x.l.length (s.extract x.at_ s.size) = none) (f : Nat) : runR s f x = x := by
  cases f with
  | zero => rfl
  | succ f => rw [runR, h]
theorem runR_some {s : ByteArray} {x : Recs} {e : LogRecord} {n : Nat} (h : nextR x.l.length (s.extract x.at_ s.size) = some (e, n)) (f : Nat) : runR s (f + 1) x = runR s f ⟨x.l ++ [e], x.ends ++ [x.at_ + n], x.at_ + n⟩ := by
  rw [runR, h]
theorem nextR_some {k n : Nat} {s : ByteArray} {e : LogRecord} (h : nextR k s = some (e, n)) : hasC 10 s = true ∧ k < 60 ∧ okR k (upto 10 s) = some e ∧ n = (upto 10 s).size + 1 ∧ n ≤ s.size := by
  unfold nextR at h
  split at h
  · rename_i h1
    cases g : okR k (upto 10 s) with
    | none => rw [g] at h; cases h
    | some e' =>
      rw [g] at h
      simp only [Option.map_some, Option.some.injEq, Prod.mk.injEq] at h
      obtain ⟨rfl, rfl⟩ := h
      have h2 := congrArg ByteArray.size (cut_split h1.1)
      have h3 : (⟨#[10]⟩ : ByteArray).size = 1 := rfl
      rw [ByteArray.size_append, ByteArray.size_append] at h2
      exact ⟨h1.1, h1.2, rfl, rfl, by omega⟩
  · cases h
def natV (l : List Nat) : List Value := l.map fun (n : Nat) => Value.int .i64 (n : Int)
def GivesRecs (w : World) (x : Recs) (r : Ending) (w' : World) : Prop := ∃ (A B : Option Addr) (c d : Nat), r = .returned (.tuple #[.slice A x.l.length c, .slice B (x.l.length + 1) d]) ∧
  w'.ownsRow w.heap.size 69 2 (.slice A x.l.length c) x.l.length (x.l.flatMap LogRecord.enc) ∧ w'.ownsRow w.heap.size 3 1 (.slice B (x.l.length + 1) d) (x.l.length + 1) (natV x.ends) ∧ Below w.heap.size w w'
def GivesOpen (w : World) (x : Recs) (r : Ending) (w' : World) : Prop := ∃ (A : Option Addr) (c : Nat), r = .returned (.tuple #[.slice A x.l.length c, .int .i64 (x.at_ : Int)]) ∧
  w'.ownsRow w.heap.size 69 2 (.slice A x.l.length c) x.l.length (x.l.flatMap LogRecord.enc) ∧ Below w.heap.size w w'

set_option maxRecDepth 100000 in
set_option maxHeartbeats 2000000 in
theorem readRecords_any (s : ByteArray) (w : World) (hs : s.size ≤ 3000000) (hg : Gl w) :
    Calls Tryz.prog 71 #[.string s] w (GivesRecs w (allR s)) := by
  go_enter Tryz.func71, Tryz.ntmps71
  go_wp2_with fail
  have k0 : Below w.heap.size w (w.alloc (.cells #[] 69)) := (Below.refl _ _).alloc (Nat.le_refl _) _
  have K0 : Below w.heap.size w ((w.alloc (.cells #[] 69)).alloc (.cells #[.int .i64 0] 3)) := bel_then k0 ((Below.refl _ _).alloc (Nat.le_refl _) _)
  have hownA := own_below (own_empty w 69 2) ((Below.refl (w.alloc (.cells #[] 69)).heap.size (w.alloc (.cells #[] 69))).alloc (Nat.le_refl _) (.cells #[.int .i64 0] 3))
  have hz : (w.alloc (.cells #[] 69)).heap.size = w.heap.size + 1 := by simp
  have hB1 : Blk ((w.alloc (.cells #[] 69)).alloc (.cells #[.int .i64 0] 3)) (w.heap.size + 1) 3 (natV [0]) := Blk.at_ hz
  have hownB : World.ownsRow ((w.alloc (.cells #[] 69)).alloc (.cells #[.int .i64 0] 3)) w.heap.size 3 1 (.slice (some ⟨w.heap.size + 1, 0, none⟩) 1 1) 1 (natV [0]) := hB1.own (by omega) rfl (by decide)
  go_loopw [4, 5, 6] (fun v u a wr => ∃ (L : List LogRecord) (ends : List Nat) (p : Nat) (A B : Option Addr) (c d : Nat), p ≤ s.size ∧ L.length ≤ 60 ∧ ends.length = L.length + 1 ∧ a = .int .i64 p ∧ v = .slice A L.length c ∧ u = .slice B (L.length + 1) d ∧ wr.ownsRow w.heap.size 69 2 (.slice A L.length c) L.length (L.flatMap LogRecord.enc) ∧ wr.ownsRow w.heap.size 3 1 (.slice B (L.length + 1) d) (L.length + 1) (natV ends) ∧ (∀ b, OwnB A b → ¬ OwnB B b) ∧ Hid (runR s (61 - L.length) ⟨L, ends, p⟩ = allR s) ∧ Below w.heap.size w wr) (fun _ _ a _ => s.size - (intOf a).toNat)
  case atStart => exact ⟨[], [0], 0, _, _, _, _, Nat.zero_le _, by decide, rfl, rfl, rfl, by first | rfl | simp, hownA, by first | exact hownB | simpa using hownB, fun b h1 h2 => by simp [OwnB, Value.ownBlock] at h1 h2; omega, Lib.hid (allR_start s), K0⟩
  case round =>
    obtain ⟨L, ends, p, A, B, c, d, hp, hL, hE, rfl, rfl, rfl, hA, hB, hdis, HI, hb⟩ := hrel
    have zx : (s.extract p s.size).size = s.size - p := by simp
    go_wp2_with fail
    refine (readRecord_any (s.extract p s.size) L.length _ (by omega) (by omega) (hg.next hb)).mono ?_
    cases g : nextR L.length (s.extract p s.size) with
    | none =>
      rintro e w1 ⟨he, b1⟩
      rw [retR] at he
      subst he
      have HE := Lib.hid (show allR s = ⟨L, ends, p⟩ from HI.out.symm.trans (runR_none (x := ⟨L, ends, p⟩) g _))
      clear g HI
      go_wp2_with fail
      have b2 : Below wr.heap.size wr (w1.alloc (.cells #[.string ⟨#[]⟩, .string ⟨#[]⟩] 69)) := bel_then b1 ((Below.refl _ _).alloc (Nat.le_refl _) _)
      go_ret2
      rw [HE.out]
      exact ⟨A, B, c, d, rfl, own_below hA b2, own_below hB b2, hb.trans (b2.mono hb.size)⟩
    | some r =>
      obtain ⟨e, n⟩ := r
      have hk6 := (nextR_some g).2.1
      have hn := (nextR_some g).2.2.2.2
      have hn1 : 1 ≤ n := by have := (nextR_some g).2.2.2.1; omega
      rintro x w1 ⟨he, b1⟩
      rw [retR] at he
      subst he
      have HN := Lib.hid (show runR s (61 - (L ++ [e]).length) ⟨L ++ [e], ends ++ [p + n], p + n⟩ = allR s by
        have h1 : 61 - L.length = (61 - (L ++ [e]).length) + 1 := by simp; omega
        have h2 := HI.out
        rw [h1] at h2
        exact (runR_some (x := ⟨L, ends, p⟩) g _).symm.trans h2)
      clear g HI
      have HM := Lib.hid hdis
      clear hdis
      have b2 : Below wr.heap.size wr (w1.alloc (.cells #[.string e.command, .string e.reply] 69)) := bel_then b1 ((Below.refl _ _).alloc (Nat.le_refl _) _)
      have hA2 := own_below hA b2
      have hB2 := own_below hB b2
      have K2 : Below w.heap.size w (w1.alloc (.cells #[.string e.command, .string e.reply] 69)) := hb.trans (b2.mono hb.size)
      have hle : w.heap.size ≤ (w1.alloc (.cells #[.string e.command, .string e.reply] 69)).heap.size := K2.size
      have E2 : Blk (w1.alloc (.cells #[.string e.command, .string e.reply] 69)) w1.heap.size 69 [.string e.command, .string e.reply] := Blk.at_ rfl
      have e2c := E2.cell
      have hpn : p + n ≤ s.size := by omega
      have hL9 : L.length ≤ 60 := hL
      go_wp2_with (first | (at_builtin; (refine wpList_pushNew rfl _ _ _ rfl Tryz.underlying65 info_impl_LogRecord rfl (by decide) rfl hA2 rfl (by simp) (by rfl) (by rfl) (by omega) (by decide) hle ?_); intro A3 c3 w3 hown3 ho3 hbb3 hat3) | (at_builtin; (refine wpList_pushNew rfl _ _ _ rfl Tryz.underlying90 info_int rfl (by decide) rfl (own_only hB2 ho3 (fun b h1 h2 => HM.out b h2 h1)) rfl (by simp) (by rfl) (by rfl) (by omega) (by decide) (by have := ho3.size; omega) ?_); intro A4 c4 w4 hown4 ho4 hbb4 hat4))
      go_roundw
      case rel =>
        refine ⟨L ++ [e], ends ++ [p + n], p + n, A3, A4, c3, c4, hpn, by simp; omega, by simp; omega, by go_num, by simp, by simp, ?_, ?_, ?_, HN, ?_⟩
        · have h1 := own_only hown3 ho4 (fun b h1 h2 => ?_)
          · simpa [LogRecord.enc] using h1
          · rcases hat3 b h1 with h3 | h3
            · exact HM.out b h3 h2
            · have := own_top hB2 h2; omega
        · simpa [natV] using hown4
        · intro b h1 h2
          rcases hat4 b h2 with h4 | h4
          · rcases hat3 b h1 with h3 | h3
            · exact HM.out b h3 h4
            · have := own_top hB2 h4; omega
          · have := own_top hown3 h1; omega
        · exact (K2.trans hbb3).trans hbb4
      case measure => simp [intOf]; omega
    
set_option maxRecDepth 100000 in
set_option maxHeartbeats 2000000 in
theorem l27Open_any (s : ByteArray) (w : World) (hs : s.size ≤ 3000000) :
    Calls Tryz.prog 108 #[.string s] w (GivesOpen w (allR s)) := by
  go_enter Tryz.func108, Tryz.ntmps108
  go_wp2_with fail
  have K0 : Below w.heap.size w (w.alloc (.cells #[] 69)) := (Below.refl _ _).alloc (Nat.le_refl _) _
  have hownA := own_empty w 69 2
  go_loopw [4, 5] (fun v a wr => ∃ (L : List LogRecord) (ends : List Nat) (p : Nat) (A : Option Addr) (c : Nat), p ≤ s.size ∧ L.length ≤ 60 ∧ a = .int .i64 p ∧ v = .slice A L.length c ∧ wr.ownsRow w.heap.size 69 2 (.slice A L.length c) L.length (L.flatMap LogRecord.enc) ∧ Hid (runR s (61 - L.length) ⟨L, ends, p⟩ = allR s) ∧ Below w.heap.size w wr) (fun _ a _ => s.size - (intOf a).toNat)
  case atStart => exact ⟨[], [0], 0, _, _, Nat.zero_le _, by decide, rfl, rfl, hownA, Lib.hid (allR_start s), K0⟩
  case round =>
    obtain ⟨L, ends, p, A, c, hp, hL, rfl, rfl, hA, HI, hb⟩ := hrel
    have zx : (s.extract p s.size).size = s.size - p := by simp
    by_cases hlt : p < s.size
    · by_cases h60 : L.length < 60
      · go_wp2_with fail
        refine (l1Split_first (s.extract p s.size) 10 _ _ rfl (by omega)).mono ?_
        rintro x w1 ⟨g1, n1, c1, rfl, x1, l1, l2, ⟨lt0, lt1⟩, b1⟩
        have zu := upto_size 10 (s.extract p s.size)
        go_wp2_with fail
        refine (l27Read_any (upto 10 (s.extract p s.size)) L.length _ (by omega) (by omega)).mono ?_
        rintro x w2 ⟨ec, er, rfl, hE, b2⟩
        have x2 := ((bcell b2).1 g1 0 lt1).trans x1
        have b3 : Below wr.heap.size wr (w2.alloc (.cells #[.string ec, .string er] 69)) := bel_then (bel_then b1 b2) ((Below.refl _ _).alloc (Nat.le_refl _) _)
        have hA2 := own_below hA b3
        have K2 : Below w.heap.size w (w2.alloc (.cells #[.string ec, .string er] 69)) := hb.trans (b3.mono hb.size)
        have hle : w.heap.size ≤ (w2.alloc (.cells #[.string ec, .string er] 69)).heap.size := K2.size
        cases gh : hasC 10 (s.extract p s.size)
        · have hnone : nextR L.length (s.extract p s.size) = none := by unfold nextR; rw [gh, if_neg (by simp)]
          have hn2 : ¬ 2 ≤ n1 := by rw [gh] at l2; simpa using l2
          clear gh l2 hE
          cases okR L.length (upto 10 (s.extract p s.size)) <;> simp only [Option.isSome]
          all_goals (
            have HE := Lib.hid (show allR s = ⟨L, ends, p⟩ from HI.out.symm.trans (runR_none (x := ⟨L, ends, p⟩) hnone _))
            clear hnone HI
            go_wp2_with fail
            go_ret2
            rw [HE.out]
            exact ⟨A, c, rfl, hA2, K2⟩)
        · have hn2 : 2 ≤ n1 := by rw [gh] at l2; simpa using l2
          cases g : okR L.length (upto 10 (s.extract p s.size)) with
          | none =>
            have hnone : nextR L.length (s.extract p s.size) = none := by unfold nextR; rw [gh, if_pos ⟨rfl, h60⟩, g]; rfl
            clear gh l2 hE g
            simp only [Option.isSome]
            have HE := Lib.hid (show allR s = ⟨L, ends, p⟩ from HI.out.symm.trans (runR_none (x := ⟨L, ends, p⟩) hnone _))
            clear hnone HI
            go_wp2_with fail
            go_ret2
            rw [HE.out]
            exact ⟨A, c, rfl, hA2, K2⟩
          | some e =>
            obtain rfl := hE e g
            have hsome : nextR L.length (s.extract p s.size) = some (⟨ec, er⟩, (upto 10 (s.extract p s.size)).size + 1) := by unfold nextR; rw [gh, if_pos ⟨rfl, h60⟩, g]; rfl
            have hn := (nextR_some hsome).2.2.2.2
            have HN := Lib.hid (show runR s (61 - (L ++ [(⟨ec, er⟩ : LogRecord)]).length) ⟨L ++ [⟨ec, er⟩], ends ++ [p + ((upto 10 (s.extract p s.size)).size + 1)], p + ((upto 10 (s.extract p s.size)).size + 1)⟩ = allR s by
              have h1 : 61 - L.length = (61 - (L ++ [(⟨ec, er⟩ : LogRecord)]).length) + 1 := by simp; omega
              have h2 := HI.out
              rw [h1] at h2
              exact (runR_some (x := ⟨L, ends, p⟩) hsome _).symm.trans h2)
            clear hsome HI g gh l2 hE
            simp only [Option.isSome]
            have E2 : Blk (w2.alloc (.cells #[.string ec, .string er] 69)) w2.heap.size 69 [.string ec, .string er] := Blk.at_ rfl
            have e2c := E2.cell
            have hz2 := b2.size
            have hAn : ¬ OwnB A g1 := fun h => by have := own_top hA h; omega
            have x3 : ((w2.alloc (.cells #[.string ec, .string er] 69))).cell? ⟨g1, 0, none⟩ = some (.string (upto 10 (s.extract p s.size))) := by
              rw [(bcell ((Below.refl w2.heap.size w2).alloc (Nat.le_refl _) (.cells #[.string ec, .string er] 69))).1 g1 0 (by omega)]; exact x2
            have hpn : p + ((upto 10 (s.extract p s.size)).size + 1) ≤ s.size := by omega
            go_wp2_with (at_builtin; (refine wpList_pushNew rfl _ _ _ rfl Tryz.underlying65 info_impl_LogRecord rfl (by decide) rfl hA2 rfl (by simp) (by rfl) (by rfl) (by omega) (by decide) hle ?_); intro A3 c3 w3 hown3 ho3 hbb3 hat3; have x4 := (cell_only (o := 0) ho3 hAn (by have := World.block_lt_of_cell? _ _ x3; exact this)).trans x3)
            go_roundw
            case rel =>
              refine ⟨L ++ [⟨ec, er⟩], ends ++ [p + ((upto 10 (s.extract p s.size)).size + 1)], p + ((upto 10 (s.extract p s.size)).size + 1), A3, c3, hpn, by simp; omega, by go_num, by simp, ?_, HN, K2.trans hbb3⟩
              simpa [LogRecord.enc] using hown3
            case measure => simp [intOf]; omega
      · have hnone : nextR L.length (s.extract p s.size) = none := by unfold nextR; rw [if_neg (by omega)]
        have HE := Lib.hid (show allR s = ⟨L, ends, p⟩ from HI.out.symm.trans (runR_none (x := ⟨L, ends, p⟩) hnone _))
        clear hnone HI
        go_wp2_with fail
        go_ret2
        rw [HE.out]
        exact ⟨A, c, rfl, hA, hb⟩
    · have hnone : nextR L.length (s.extract p s.size) = none := by
        unfold nextR
        rw [if_neg]
        rintro ⟨h1, _⟩
        have h2 := congrArg ByteArray.size (cut_split h1)
        have h3 : (⟨#[10]⟩ : ByteArray).size = 1 := rfl
        rw [ByteArray.size_append, ByteArray.size_append] at h2
        omega
      have HE := Lib.hid (show allR s = ⟨L, ends, p⟩ from HI.out.symm.trans (runR_none (x := ⟨L, ends, p⟩) hnone _))
      clear hnone HI
      go_wp2_with fail
      go_ret2
      rw [HE.out]
      exact ⟨A, c, rfl, hA, hb⟩

end Go.Proofs.YtflpcdffmpfdpaaGreatDoor

namespace Go.Proofs.YtflpcdffmpfdpaaGreatDoor
open Go.RowKit

structure RecsOk (s : ByteArray) (x : Recs) : Prop where
  at_ : x.at_ ≤ s.size
  len : x.l.length ≤ 60
  ends : x.ends.length = x.l.length + 1
  last : x.ends[x.l.length]? = some x.at_
theorem runR_ok {s : ByteArray} : ∀ (f : Nat) {x : Recs}, RecsOk s x → RecsOk s (runR s f x)
  | 0, x, h => h
  | f + 1, x, h => by
    cases g : nextR x.l.length (s.extract x.at_ s.size) with
    | none => rw [runR_none g]; exact h
    | some r =>
      obtain ⟨e, n⟩ := r
      rw [runR_some g]
      obtain ⟨_, h1, _, _, h2⟩ := nextR_some g
      have h3 := h.at_
      have h4 := h.ends
      have h5 : (s.extract x.at_ s.size).size = s.size - x.at_ := by simp
      refine runR_ok f ⟨by show x.at_ + n ≤ _; omega, by show (x.l ++ [e]).length ≤ 60; simp; omega, by show (x.ends ++ [x.at_ + n]).length = (x.l ++ [e]).length + 1; simp; omega, ?_⟩
      show (x.ends ++ [x.at_ + n])[(x.l ++ [e]).length]? = some (x.at_ + n)
      rw [List.getElem?_append_right (by simp; omega)]
      simp [h4]
theorem allR_ok (s : ByteArray) : RecsOk s (allR s) := by
  rw [← allR_start]
  exact runR_ok 61 ⟨Nat.zero_le _, by decide, rfl, rfl⟩
theorem natV_at {l : List Nat} {i n : Nat} (h : l[i]? = some n) : (natV l)[i]? = some (.int .i64 (n : Int)) := by
  unfold natV
  rw [List.getElem?_map, h]; rfl
end Go.Proofs.YtflpcdffmpfdpaaGreatDoor

namespace Go.Proofs.YtflpcdffmpfdpaaGreatDoor
open Go.RowKit

theorem line_size {k : Nat} {e : LogRecord} (h : recB e = true) (hk : k < 60) : (lineT k e).size ≤ 372 := by
  have h1 := body_size (k := k) h (by omega)
  have h2 := sealT_size (bodyT k e)
  have h3 : (⟨#[10]⟩ : ByteArray).size = 1 := rfl
  unfold lineT
  rw [ByteArray.size_append]
  omega
theorem next_size {k n : Nat} {s : ByteArray} {e : LogRecord} (h : nextR k s = some (e, n)) : 1 ≤ n ∧ n ≤ 372 := by
  obtain ⟨_, hk, h1, h2, _⟩ := nextR_some h
  obtain ⟨h3, h4⟩ := okR_some h1
  have h5 := line_size h3 hk
  have h6 : (⟨#[10]⟩ : ByteArray).size = 1 := rfl
  rw [h4, ByteArray.size_append] at h5
  omega
theorem runR_size {s : ByteArray} : ∀ (f : Nat) {x : Recs}, x.at_ ≤ 372 * x.l.length → (runR s f x).at_ ≤ 372 * (runR s f x).l.length
  | 0, _, h => h
  | f + 1, x, h => by
    cases g : nextR x.l.length (s.extract x.at_ s.size) with
    | none => rw [runR_none g]; exact h
    | some r =>
      obtain ⟨e, n⟩ := r
      rw [runR_some g]
      have h1 := (next_size g).2
      exact runR_size f (by show x.at_ + n ≤ 372 * (x.l ++ [e]).length; rw [List.length_append]; simp only [List.length_singleton]; omega)
theorem allR_size (s : ByteArray) : (allR s).at_ ≤ 30000 := by
  have h1 : (allR s).at_ ≤ 372 * (allR s).l.length := by
    rw [← allR_start]
    exact runR_size 61 (Nat.zero_le _)
  have := (allR_ok s).len
  omega
theorem not_mem_take (b : UInt8) : ∀ l : List UInt8, b ∉ l.takeWhile (· != b)
  | [] => by simp
  | c :: l => by
    have ih := not_mem_take b l
    rw [List.takeWhile_cons]
    split
    · rename_i h
      have hc : c ≠ b := by simpa using h
      intro hm
      rcases List.mem_cons.1 hm with e | e
      · exact hc e.symm
      · exact ih e
    · simp
theorem hasC_left {b : UInt8} {u v : ByteArray} (h : hasC b u = true) : hasC b (u ++ v) = true := by rw [hasC_append, h]; rfl
theorem upto_left {b : UInt8} {u v : ByteArray} (h : hasC b u = true) : upto b (u ++ v) = upto b u := by
  have hn : hasC b (upto b u) = false := by
    unfold hasC upto
    rw [← Bool.not_eq_true, List.contains_iff_mem]
    exact not_mem_take _ _
  have h1 : u ++ v = upto b u ++ ⟨#[b]⟩ ++ (past b u ++ v) := by
    rw [← ByteArray.append_assoc, ← cut_split h]
  rw [h1]
  exact (cut_join hn).1
theorem nextR_left {k n : Nat} {u v : ByteArray} {e : LogRecord} (h : nextR k u = some (e, n)) : nextR k (u ++ v) = some (e, n) := by
  obtain ⟨h1, h2, h3, h4, _⟩ := nextR_some h
  unfold nextR
  rw [if_pos ⟨hasC_left h1, h2⟩, upto_left h1, h3, h4]
  rfl
theorem hasC_of_short {b : UInt8} {u v : ByteArray} (h : (upto b (u ++ v)).size < u.size) : hasC b u = true := by
  cases g : hasC b u with
  | true => rfl
  | false =>
    have hall : ∀ x ∈ u.data.toList, (x != b) = true := fun x hx => by
      unfold hasC at g
      rw [← Bool.not_eq_true, List.contains_iff_mem] at g
      have hne : x ≠ b := fun e => g (e ▸ hx)
      simpa using hne
    have h1 : (upto b (u ++ v)).data.toList = u.data.toList ++ v.data.toList.takeWhile (· != b) := by
      show ((u ++ v).data.toList.takeWhile (· != b)).toArray.toList = _
      rw [ByteArray.data_append, Array.toList_append, List.takeWhile_append_of_pos hall]
    have h2 := congrArg List.length h1
    rw [List.length_append, Array.length_toList, Array.length_toList] at h2
    have h3 : (upto b (u ++ v)).size = (upto b (u ++ v)).data.size := rfl
    have h4 : u.size = u.data.size := rfl
    omega
theorem nextR_cut {k n : Nat} {u v : ByteArray} {e : LogRecord} (h : nextR k (u ++ v) = some (e, n)) (hn : n ≤ u.size) : nextR k u = some (e, n) := by
  obtain ⟨_, h2, h3, h4, _⟩ := nextR_some h
  have h1 := hasC_of_short (b := 10) (u := u) (v := v) (by omega)
  rw [upto_left h1] at h3 h4
  unfold nextR
  rw [if_pos ⟨h1, h2⟩, h3, h4]
  rfl
theorem tail_left {u v : ByteArray} {p : Nat} (h : p ≤ u.size) : (u ++ v).extract p (u ++ v).size = u.extract p u.size ++ v := by
  have h1 := join_parts u p h
  have h2 := (take_left (u.extract 0 p) (u.extract p u.size ++ v)).2
  have h3 : (u.extract 0 p).size = p := by simp; omega
  rw [← ByteArray.append_assoc, h1, h3] at h2
  exact h2
theorem ends_keep {s : ByteArray} {y : Nat} : ∀ (f : Nat) {x : Recs}, y ∈ x.ends → y ∈ (runR s f x).ends
  | 0, _, h => h
  | f + 1, x, h => by
    cases g : nextR x.l.length (s.extract x.at_ s.size) with
    | none => rw [runR_none g]; exact h
    | some r =>
      obtain ⟨e, n⟩ := r
      rw [runR_some g]
      exact ends_keep f (List.mem_append_left _ h)
theorem ends_new {s : ByteArray} {y : Nat} : ∀ (f : Nat) {x : Recs}, y ∈ (runR s f x).ends → y ∈ x.ends ∨ x.at_ < y
  | 0, _, h => .inl h
  | f + 1, x, h => by
    cases g : nextR x.l.length (s.extract x.at_ s.size) with
    | none => rw [runR_none g] at h; exact .inl h
    | some r =>
      obtain ⟨e, n⟩ := r
      have h1 := (next_size g).1
      rw [runR_some g] at h
      rcases ends_new f h with h2 | h2
      · rcases List.mem_append.1 h2 with h3 | h3
        · exact .inl h3
        · have h4 : y = x.at_ + n := by simpa using h3
          exact .inr (by omega)
      · have h4 : x.at_ + n < y := h2
        exact .inr (by omega)
theorem run_left {u v : ByteArray} : ∀ (f : Nat) {x : Recs}, x.at_ ≤ u.size → x.at_ ∈ x.ends → (runR u f x).at_ ∈ (runR (u ++ v) f x).ends
  | 0, _, _, h => h
  | f + 1, x, hp, h => by
    cases g : nextR x.l.length (u.extract x.at_ u.size) with
    | none => rw [runR_none g]; exact ends_keep _ h
    | some r =>
      obtain ⟨e, n⟩ := r
      have h1 := (nextR_some g).2.2.2.2
      have h2 : (u.extract x.at_ u.size).size = u.size - x.at_ := by simp
      have g2 : nextR x.l.length ((u ++ v).extract x.at_ (u ++ v).size) = some (e, n) := by rw [tail_left hp]; exact nextR_left g
      rw [runR_some g, runR_some g2]
      exact run_left f (by show x.at_ + n ≤ u.size; omega) (List.mem_append_right _ (List.mem_singleton.2 rfl))
theorem run_cut {u v : ByteArray} : ∀ (f : Nat) {x : Recs}, x.at_ ≤ u.size → (u.size ∈ x.ends → x.at_ = u.size) → u.size ∈ (runR (u ++ v) f x).ends → (runR u f x).at_ = u.size
  | 0, _, _, h0, h => h0 h
  | f + 1, x, hp, h0, h => by
    by_cases he : x.at_ = u.size
    · have g : nextR x.l.length (u.extract x.at_ u.size) = none := by
        cases g : nextR x.l.length (u.extract x.at_ u.size) with
        | none => rfl
        | some r =>
          obtain ⟨e, n⟩ := r
          have h1 := (nextR_some g).2.2.2.2
          have h2 : (u.extract x.at_ u.size).size = u.size - x.at_ := by simp
          have h3 := (next_size g).1
          omega
      rw [runR_none g]; exact he
    · cases g : nextR x.l.length ((u ++ v).extract x.at_ (u ++ v).size) with
      | none => rw [runR_none g] at h; exact absurd (h0 h) he
      | some r =>
        obtain ⟨e, n⟩ := r
        have h2 : (u.extract x.at_ u.size).size = u.size - x.at_ := by simp
        rw [runR_some g] at h
        by_cases hn : x.at_ + n ≤ u.size
        · rw [tail_left hp] at g
          have g2 := nextR_cut g (by omega)
          rw [runR_some g2]
          refine run_cut f hn (fun hm => ?_) h
          rcases List.mem_append.1 hm with h3 | h3
          · exact absurd (h0 h3) he
          · exact (by simpa using h3 : u.size = x.at_ + n).symm
        · rcases ends_new f h with h3 | h3
          · rcases List.mem_append.1 h3 with h4 | h4
            · exact absurd (h0 h4) he
            · have h5 : u.size = x.at_ + n := by simpa using h4
              omega
          · have h4 : x.at_ + n < u.size := h3
            omega
/-- An end of a log's text stands where its durable part ends exactly if that part is a log by itself. -/
theorem ends_iff (u v : ByteArray) : u.size ∈ (allR (u ++ v)).ends ↔ (allR u).at_ = u.size := by
  rw [← allR_start, ← allR_start]
  constructor
  · exact run_cut 61 (Nat.zero_le _) (fun h => (List.mem_singleton.1 h).symm)
  · intro h
    have := run_left (u := u) (v := v) 61 (x := ⟨[], [0], 0⟩) (Nat.zero_le _) (List.mem_singleton.2 rfl)
    rw [h] at this
    exact this

end Go.Proofs.YtflpcdffmpfdpaaGreatDoor

namespace Go.Proofs.YtflpcdffmpfdpaaGreatDoor
open Go.RowKit

def validL (l : Log) : Bool := decide ((allR (l.durable ++ l.pending)).at_ = l.durable.size + l.pending.size) && decide ((allR l.durable).at_ = l.durable.size) && decide (((allR (l.durable ++ l.pending)).l.length : Int) = l.count)

set_option maxRecDepth 100000 in
set_option maxHeartbeats 1000000 in
theorem l27Log_any (l : Log) (w : World) (hs : l.upto 1048576) :
    Calls Tryz.prog 63 #[.agg #[.string l.durable, .string l.pending, .int .i64 l.count]] w fun e w' => e = .returned (.bool (validL l)) ∧ Below w.heap.size w w' := by
  obtain ⟨h1, h2⟩ := hs
  have zs : (l.durable ++ l.pending).size = l.durable.size + l.pending.size := ByteArray.size_append
  have K0 : Below w.heap.size w (w.alloc (.cells #[.string l.durable, .string l.pending, .int .i64 l.count] 33)) := (Below.refl _ _).alloc (Nat.le_refl _) _
  have B0 : Blk (w.alloc (.cells #[.string l.durable, .string l.pending, .int .i64 l.count] 33)) w.heap.size 33 [.string l.durable, .string l.pending, .int .i64 l.count] := Blk.at_ rfl
  by_cases h3 : l.durable.size + l.pending.size ≤ 30000
  · go_enter Tryz.func63, Tryz.ntmps63
    go_wp2_with fail
    refine (l27Open_any (l.durable ++ l.pending) _ (by omega)).mono ?_
    rintro e w1 ⟨A, c, rfl, hA, b1⟩
    have K1 := bel_then K0 b1
    have B1 := B0.next b1
    have c1 := B1.cell
    go_wp2_with fail
    refine (l27Open_any l.durable _ (by omega)).mono ?_
    rintro e w2 ⟨A2, c2, rfl, hA2, b2⟩
    have K2 := bel_then K1 b2
    have B2 := B1.next b2
    have c2' := B2.cell
    have HR := Lib.hid (show validL l = (decide ((allR (l.durable ++ l.pending)).at_ = l.durable.size + l.pending.size) && decide ((allR l.durable).at_ = l.durable.size) && decide (((allR (l.durable ++ l.pending)).l.length : Int) = l.count)) from rfl)
    have HA := Lib.hid (allR_ok (l.durable ++ l.pending)).at_
    clear c1 hA hA2
    generalize allR (l.durable ++ l.pending) = x at *
    generalize allR l.durable = y at *
    by_cases e1 : x.at_ = l.durable.size + l.pending.size
    · have d1 : ((x.at_ : Int) == (l.durable.size : Int) + (l.pending.size : Int)) = true := beq_iff_eq.2 (by omega)
      by_cases e2 : y.at_ = l.durable.size
      · have d2 : ((y.at_ : Int) == (l.durable.size : Int)) = true := beq_iff_eq.2 (by omega)
        by_cases e3 : (x.l.length : Int) = l.count
        · have d3 : ((x.l.length : Int) == l.count) = true := beq_iff_eq.2 e3
          have HF := Lib.hid (show validL l = true by rw [HR.out, decide_eq_true e1, decide_eq_true e2, decide_eq_true e3]; rfl)
          clear HR e1 e2 e3
          go_wp2_with fail
          go_ret
          exact ⟨ret_bool HF.out.symm, bel_then K1 b2⟩
        · have d3 : ((x.l.length : Int) == l.count) = false := beq_eq_false_iff_ne.2 e3
          have HF := Lib.hid (show validL l = false by rw [HR.out, decide_eq_false e3]; simp)
          clear HR e1 e2 e3
          go_wp2_with fail
          go_ret
          exact ⟨ret_bool HF.out.symm, bel_then K1 b2⟩
      · have d2 : ((y.at_ : Int) == (l.durable.size : Int)) = false := beq_eq_false_iff_ne.2 (by omega)
        have HF := Lib.hid (show validL l = false by rw [HR.out, decide_eq_false e2]; simp)
        clear HR e1 e2
        go_wp2_with fail
        go_ret
        exact ⟨ret_bool HF.out.symm, bel_then K1 b2⟩
    · have d1 : ((x.at_ : Int) == (l.durable.size : Int) + (l.pending.size : Int)) = false := beq_eq_false_iff_ne.2 (by omega)
      have HF := Lib.hid (show validL l = false by rw [HR.out, decide_eq_false e1]; rfl)
      clear HR e1
      go_wp2_with fail
      go_ret
      exact ⟨ret_bool HF.out.symm, bel_then K1 b2⟩
  · have HR := Lib.hid (show validL l = false by
      have h4 := allR_size (l.durable ++ l.pending)
      unfold validL
      rw [decide_eq_false (by omega)]; rfl)
    go_enter Tryz.func63, Tryz.ntmps63
    go_wp2_with fail
    go_ret
    exact ⟨ret_bool HR.out.symm, K0⟩

set_option maxRecDepth 100000 in
set_option maxHeartbeats 2000000 in
theorem IsValidLog_any (l : Log) (w : World) (hs : l.upto 1048576) (hg : Gl w) :
    Calls Tryz.prog 69 #[.agg #[.string l.durable, .string l.pending, .int .i64 l.count]] w fun e w' => e = .returned (.bool (validL l)) ∧ Below w.heap.size w w' := by
  obtain ⟨h1, h2⟩ := hs
  have zs : (l.durable ++ l.pending).size = l.durable.size + l.pending.size := ByteArray.size_append
  have fs : ¬ 9223372036854775807 < l.durable.size + l.pending.size := by omega
  have K0 : Below w.heap.size w (w.alloc (.cells #[.string l.durable, .string l.pending, .int .i64 l.count] 33)) := (Below.refl _ _).alloc (Nat.le_refl _) _
  have B0 : Blk (w.alloc (.cells #[.string l.durable, .string l.pending, .int .i64 l.count] 33)) w.heap.size 33 [.string l.durable, .string l.pending, .int .i64 l.count] := Blk.at_ rfl
  go_enter Tryz.func69, Tryz.ntmps69
  go_wp2_with fail
  refine (readRecords_any (l.durable ++ l.pending) _ (by omega) (hg.next K0)).mono ?_
  rintro e w1 ⟨A, B, c, d, rfl, hA, hB, b1⟩
  have K1 := bel_then K0 b1
  have B1 := B0.next b1
  have c1 := B1.cell
  have hs2 : Sees w1 0 1 B ((allR (l.durable ++ l.pending)).l.length + 1) (natV (allR (l.durable ++ l.pending)).ends) := .of_own (own_base hB (Nat.zero_le _))
  obtain ⟨gb, off, rfl, g1, _, g2⟩ := hs2.at' (by omega)
  have hok := allR_ok (l.durable ++ l.pending)
  have x1 := g2 (allR (l.durable ++ l.pending)).l.length _ (natV_at hok.last)
  have hat := hok.at_
  have hln := hok.len
  have HE := Lib.hid hok.ends
  have HI := Lib.hid (ends_iff l.durable l.pending)
  have HR := Lib.hid (show validL l = (decide ((allR (l.durable ++ l.pending)).at_ = l.durable.size + l.pending.size) && decide ((allR l.durable).at_ = l.durable.size) && decide (((allR (l.durable ++ l.pending)).l.length : Int) = l.count)) from rfl)
  clear hok hs2 hA hB
  generalize allR (l.durable ++ l.pending) = x at *
  have HG := Lib.hid g2
  clear g2
  by_cases e1 : x.at_ = l.durable.size + l.pending.size
  · have d1 : ((x.at_ : Int) == (l.durable.size : Int) + (l.pending.size : Int)) = true := beq_iff_eq.2 (by omega)
    have d1' : ((x.at_ : Int) != (l.durable.size : Int) + (l.pending.size : Int)) = false := by rw [bne, d1]; rfl
    by_cases e3 : (x.l.length : Int) = l.count
    · have d3 : ((x.l.length : Int) == l.count) = true := beq_iff_eq.2 e3
      have d3' : ((x.l.length : Int) != l.count) = false := by rw [bne, d3]; rfl
      have HF := Lib.hid (show validL l = decide ((allR l.durable).at_ = l.durable.size) by rw [HR.out, decide_eq_true e1, decide_eq_true e3]; simp)
      clear HR e1 e3
      go_wp2_with fail
      go_loop [35] (fun i => ∃ k : Nat, k ≤ x.l.length + 1 ∧ i = .int .i64 (k : Int) ∧ Hid (∀ j, j < k → x.ends[j]? ≠ some l.durable.size)) (fun i => x.l.length + 1 - (intOf i).toNat)
      case atStart => exact ⟨0, Nat.zero_le _, rfl, Lib.hid (fun j h => absurd h (by omega))⟩
      case round =>
        obtain ⟨k, hk, rfl, HN⟩ := hrel
        by_cases hlt : k < x.l.length + 1
        · have hke : k < x.ends.length := by rw [HE.out]; exact hlt
          have hget : x.ends[k]? = some x.ends[k] := List.getElem?_eq_getElem hke
          have x2 := HG.out k _ (natV_at hget)
          by_cases hv : x.ends[k] = l.durable.size
          · have dv : ((x.ends[k] : Int) == (l.durable.size : Int)) = true := beq_iff_eq.2 (by omega)
            have HT := Lib.hid (show validL l = true by rw [HF.out, decide_eq_true (HI.out.1 (hv ▸ List.getElem_mem hke))])
            clear hget hv
            generalize x.ends[k] = v at *
            go_wp2_with fail
            go_ret
            exact ⟨ret_bool HT.out.symm, K1⟩
          · have dv : ((x.ends[k] : Int) == (l.durable.size : Int)) = false := beq_eq_false_iff_ne.2 (by omega)
            have HN2 := Lib.hid (show ∀ j, j < k + 1 → x.ends[j]? ≠ some l.durable.size by
              intro j hj
              by_cases hjk : j = k
              · subst hjk; rw [hget]; intro h; exact hv (Option.some.inj h)
              · exact HN.out j (by omega))
            clear hget hv
            generalize x.ends[k] = v at *
            go_wp2_with fail
            go_round
            case rel => exact ⟨k + 1, by omega, by go_num, HN2⟩
            case measure => simp [intOf]; omega
        · have HT := Lib.hid (show validL l = false by
            rw [HF.out, decide_eq_false]
            intro h
            obtain ⟨j, hj, hj2⟩ := List.getElem_of_mem (HI.out.2 h)
            have h5 := HE.out
            exact HN.out j (by omega) (by rw [List.getElem?_eq_getElem hj, hj2]))
          go_wp2_with fail
          go_ret
          exact ⟨ret_bool HT.out.symm, K1⟩
    · have d3 : ((x.l.length : Int) == l.count) = false := beq_eq_false_iff_ne.2 e3
      have d3' : ((x.l.length : Int) != l.count) = true := by rw [bne, d3]; rfl
      have HF := Lib.hid (show validL l = false by rw [HR.out, decide_eq_false e3]; simp)
      clear HR e1 e3
      go_wp2_with fail
      go_ret
      exact ⟨ret_bool HF.out.symm, K1⟩
  · have d1 : ((x.at_ : Int) == (l.durable.size : Int) + (l.pending.size : Int)) = false := beq_eq_false_iff_ne.2 (by omega)
    have d1' : ((x.at_ : Int) != (l.durable.size : Int) + (l.pending.size : Int)) = true := by rw [bne, d1]; rfl
    have HF := Lib.hid (show validL l = false by rw [HR.out, decide_eq_false e1]; rfl)
    clear HR e1
    go_wp2_with fail
    go_ret
    exact ⟨ret_bool HF.out.symm, K1⟩

end Go.Proofs.YtflpcdffmpfdpaaGreatDoor

namespace Go.Proofs.YtflpcdffmpfdpaaGreatDoor
open Go.RowKit

theorem bel_set3 {B g : Nat} {a w : World} (h : Below B a w) (hg : B ≤ g) (u v x : Value) : Below B a (((w.setCell ⟨g, 0, none⟩ u).setCell ⟨g, 1, none⟩ v).setCell ⟨g, 2, none⟩ x) :=
  ((h.setCell (p := ⟨g, 0, none⟩) hg _).setCell (p := ⟨g, 1, none⟩) hg _).setCell (p := ⟨g, 2, none⟩) hg _
/-- A log and a word. -/
def GivesLB (w : World) (R : Log × Bool) (e : Ending) (w' : World) : Prop := e = .returned (.tuple #[.agg #[.string R.1.durable, .string R.1.pending, .int .i64 R.1.count], .bool R.2]) ∧ Below w.heap.size w w'

end Go.Proofs.YtflpcdffmpfdpaaGreatDoor
