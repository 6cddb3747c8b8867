/- The draws of records and logs. -/
import Derived.Test.YtjangfhelagjnaaDoorCur2
import Derived.Test.YtjangfhelagjnaaDoorCrashL
import Derived.Test.YtjangfhelagjnaaDoorLogP
namespace Go.Proofs.YtjangfhelagjnaaDoor
open Go.RowKit

theorem only_new {S : Nat → Prop} {a w : World} (h : Only S a w) {p : Addr} (hp : a.heap.size ≤ p.block) (u : Value) : Only S a (w.setCell p u) :=
  ⟨h.os, h.tape, h.output, by simpa [World.setCell] using h.size, fun k hk hS => (Below.heap_setCell _ _ _ _ (fun e => by omega)).trans (h.block k hk hS)⟩
/-- A new block. -/
theorem only_alloc {S : Nat → Prop} {a w : World} (h : Only S a w) (o : Obj) : Only S a (w.alloc o) := h.then_ ((Below.refl _ _).alloc (Nat.le_refl _) o)
theorem Cur.keep {w w' : World} {g n : Nat} {S : Nat → Prop} (h : Cur w g n) (ho : Only S w w') (hg : ¬ S g) (hS : ∀ b, S b → g ≤ b) : Cur w' g n := by
  obtain ⟨A, m, c, p, s, h1, h2, h3, h4⟩ := h.ex
  exact ⟨A, m, c, p, s, h1.only ho hg, h2, h3, CodeAt.only h4 h1.lt ho hS⟩
def DrawnR (w : World) (g n : Nat) (e : Ending) (w' : World) : Prop := ∃ x : LogRecord, e = .returned (.agg #[.string x.command, .string x.reply]) ∧ x.upto 20 ∧ Cur w' g n ∧ Only (fun b => b = g) w w'
theorem texts1 : ∀ s ∈ ([⟨#[99, 111, 117, 110, 116]⟩, ⟨#[115, 111, 114, 116, 32, 109, 101, 114, 103, 101]⟩, ⟨#[120]⟩, ⟨#[115, 101, 108, 101, 99, 116, 32, 50]⟩, ⟨#[48, 32, 49]⟩] : List ByteArray), s.size ≤ 20 := by decide
theorem texts2 : ∀ s ∈ ([⟨#[]⟩, ⟨#[51]⟩, ⟨#[63]⟩, ⟨#[97, 64, 98]⟩, ⟨#[51, 32, 49, 32, 50]⟩] : List ByteArray), s.size ≤ 20 := by decide
theorem texts3 : ∀ s ∈ ([⟨#[]⟩, ⟨#[97, 64, 98]⟩, ⟨#[97, 35]⟩, ⟨#[10]⟩, ⟨#[0, 0, 0]⟩] : List ByteArray), s.size ≤ 20 := by decide
theorem texts4 : ∀ s ∈ ([⟨#[35]⟩, ⟨#[10]⟩, ⟨#[127]⟩] : List ByteArray), s.size ≤ 20 := by decide

set_option maxRecDepth 100000 in
set_option maxHeartbeats 2000000 in
theorem logRecord_any (g n : Nat) (w : World) (h : Cur w g n) (hn : n ≤ 900000) :
    Calls Tryd.prog 55 #[.pointer (some ⟨g, 0, none⟩)] w (DrawnR w g (n + 8)) := by
  have hg := h.lt
  have U1 : Below w.heap.size w ((w.alloc (.cells #[.string ⟨#[]⟩, .string ⟨#[]⟩] 27)).alloc (.cells #[.string ⟨#[99, 111, 117, 110, 116]⟩, .string ⟨#[115, 111, 114, 116, 32, 109, 101, 114, 103, 101]⟩, .string ⟨#[120]⟩, .string ⟨#[115, 101, 108, 101, 99, 116, 32, 50]⟩, .string ⟨#[48, 32, 49]⟩] 9)) := ((Below.refl _ _).alloc (Nat.le_refl _) _).alloc (by simp) _
  have R1 : Blk ((w.alloc (.cells #[.string ⟨#[]⟩, .string ⟨#[]⟩] 27)).alloc (.cells #[.string ⟨#[99, 111, 117, 110, 116]⟩, .string ⟨#[115, 111, 114, 116, 32, 109, 101, 114, 103, 101]⟩, .string ⟨#[120]⟩, .string ⟨#[115, 101, 108, 101, 99, 116, 32, 50]⟩, .string ⟨#[48, 32, 49]⟩] 9)) w.heap.size 27 [.string ⟨#[]⟩, .string ⟨#[]⟩] := (Blk.at_ rfl).alloc _
  have B1 : Blk ((w.alloc (.cells #[.string ⟨#[]⟩, .string ⟨#[]⟩] 27)).alloc (.cells #[.string ⟨#[99, 111, 117, 110, 116]⟩, .string ⟨#[115, 111, 114, 116, 32, 109, 101, 114, 103, 101]⟩, .string ⟨#[120]⟩, .string ⟨#[115, 101, 108, 101, 99, 116, 32, 50]⟩, .string ⟨#[48, 32, 49]⟩] 9)) (w.heap.size + 1) 9 (([⟨#[99, 111, 117, 110, 116]⟩, ⟨#[115, 111, 114, 116, 32, 109, 101, 114, 103, 101]⟩, ⟨#[120]⟩, ⟨#[115, 101, 108, 101, 99, 116, 32, 50]⟩, ⟨#[48, 32, 49]⟩] : List ByteArray).map Value.string) := Blk.at_ (by simp)
  go_enter Tryd.func55, Tryd.ntmps55
  go_wp2_with fail
  refine (of_any g n (w.heap.size + 1) 5 _ [⟨#[99, 111, 117, 110, 116]⟩, ⟨#[115, 111, 114, 116, 32, 109, 101, 114, 103, 101]⟩, ⟨#[120]⟩, ⟨#[115, 101, 108, 101, 99, 116, 32, 50]⟩, ⟨#[48, 32, 49]⟩] _ B1 (by omega) (h.next U1) (by omega) rfl (by decide) (by decide)).mono ?_
  rintro e w1 ⟨s1, rfl, m1, c1, o1⟩
  have z1 := texts1 s1 m1
  clear m1
  have O1 : Only (fun b => b = g) w w1 := (Only.of_below U1).trans o1
  have R2 := R1.only o1 (fun (h : _ = _) => by omega)
  have lt2 := R2.lt
  clear U1 R1 B1
  have U2 : Below w1.heap.size w1 (w1.alloc (.cells #[.string ⟨#[]⟩, .string ⟨#[51]⟩, .string ⟨#[63]⟩, .string ⟨#[97, 64, 98]⟩, .string ⟨#[51, 32, 49, 32, 50]⟩] 9)) := (Below.refl _ _).alloc (Nat.le_refl _) _
  have B2 : Blk (w1.alloc (.cells #[.string ⟨#[]⟩, .string ⟨#[51]⟩, .string ⟨#[63]⟩, .string ⟨#[97, 64, 98]⟩, .string ⟨#[51, 32, 49, 32, 50]⟩] 9)) w1.heap.size 9 (([⟨#[]⟩, ⟨#[51]⟩, ⟨#[63]⟩, ⟨#[97, 64, 98]⟩, ⟨#[51, 32, 49, 32, 50]⟩] : List ByteArray).map Value.string) := Blk.at_ rfl
  go_wp2_with fail
  refine (of_any g _ w1.heap.size 5 _ [⟨#[]⟩, ⟨#[51]⟩, ⟨#[63]⟩, ⟨#[97, 64, 98]⟩, ⟨#[51, 32, 49, 32, 50]⟩] _ B2 (by have := c1.lt; omega) (c1.next U2) (by omega) rfl (by decide) (by decide)).mono ?_
  rintro e w2 ⟨s2, rfl, m2, c2, o2⟩
  have z2 := texts2 s2 m2
  clear m2
  have O2 : Only (fun b => b = g) w w2 := (O1.then_ U2).trans o2
  have R3 := (R2.next U2).only o2 (fun (h : _ = _) => by omega)
  have lt3 := R3.lt
  clear U2 B2 R2
  go_wp2_with fail
  have U3 : Below w2.heap.size w2 (w2.alloc (.cells #[.string s1, .string s2] 27)) := (Below.refl _ _).alloc (Nat.le_refl _) _
  have E3 : Blk (w2.alloc (.cells #[.string s1, .string s2] 27)) w2.heap.size 27 [.string s1, .string s2] := Blk.at_ rfl
  refine (pick_any 24 g _ _ (c2.next U3) (by omega) (by omega) (by omega)).mono ?_
  rintro e w3 ⟨q, rfl, hq, c3, o3⟩
  have O3 : Only (fun b => b = g) w w3 := (O2.then_ U3).trans o3
  have cl := c2.lt
  have E4 := E3.only o3 (fun (h : _ = _) => by omega)
  have R4 := (R3.next U3).only o3 (fun (h : _ = _) => by omega)
  have lt4 := R4.lt
  have le4 := E4.lt
  have hne : w.heap.size ≠ w2.heap.size := by omega
  have hne' : w2.heap.size ≠ w.heap.size := by omega
  clear U3 E3 R3
  by_cases q0 : q = 0
  · subst q0
    have hmk : Sem.run Tryd.prog (Instr.makeSlice 53 (Value.int IntKind.i64 3) (Value.int IntKind.i64 3)) w3 = .ok (.slice (some ⟨w3.heap.size, 0, none⟩) 3 3) (w3.alloc (.cells #[.int .u8 0, .int .u8 0, .int .u8 0] 5)) := by kernel_rfl
    have hcv := whole_back ⟨#[0, 0, 0]⟩ (w3.alloc (.cells #[.int .u8 0, .int .u8 0, .int .u8 0] 5)) w3.heap.size 3 (fun i hi => by
      rw [((Blk.at_ rfl : Blk (w3.alloc (.cells #[.int .u8 0, .int .u8 0, .int .u8 0] 5)) w3.heap.size 5 [.int .u8 0, .int .u8 0, .int .u8 0])).cell i]
      have hi3 : i < 3 := hi
      have h3 : i = 0 ∨ i = 1 ∨ i = 2 := by omega
      rcases h3 with rfl | rfl | rfl <;> rfl)
    have hcv' : Sem.run Tryd.prog (convert 53 9 (.slice (some ⟨w3.heap.size, 0, none⟩) 3 3)) (w3.alloc (.cells #[.int .u8 0, .int .u8 0, .int .u8 0] 5)) = .ok (.string ⟨#[0, 0, 0]⟩) (w3.alloc (.cells #[.int .u8 0, .int .u8 0, .int .u8 0] 5)) := hcv
    clear hcv
    have U4 : Below w3.heap.size w3 ((w3.alloc (.cells #[.int .u8 0, .int .u8 0, .int .u8 0] 5)).alloc (.cells #[.string ⟨#[]⟩, .string ⟨#[97, 64, 98]⟩, .string ⟨#[97, 35]⟩, .string ⟨#[10]⟩, .string ⟨#[0, 0, 0]⟩] 9)) := ((Below.refl _ _).alloc (Nat.le_refl _) _).alloc (by simp) _
    have B4 : Blk ((w3.alloc (.cells #[.int .u8 0, .int .u8 0, .int .u8 0] 5)).alloc (.cells #[.string ⟨#[]⟩, .string ⟨#[97, 64, 98]⟩, .string ⟨#[97, 35]⟩, .string ⟨#[10]⟩, .string ⟨#[0, 0, 0]⟩] 9)) (w3.heap.size + 1) 9 (([⟨#[]⟩, ⟨#[97, 64, 98]⟩, ⟨#[97, 35]⟩, ⟨#[10]⟩, ⟨#[0, 0, 0]⟩] : List ByteArray).map Value.string) := Blk.at_ (by simp)
    go_wp2_with fail
    refine (of_any g _ (w3.heap.size + 1) 5 _ [⟨#[]⟩, ⟨#[97, 64, 98]⟩, ⟨#[97, 35]⟩, ⟨#[10]⟩, ⟨#[0, 0, 0]⟩] _ B4 (by have := c3.lt; omega) (c3.next U4) (by omega) rfl (by decide) (by decide)).mono ?_
    rintro e w4 ⟨s4, rfl, m4, c4, o4⟩
    have z4 := texts3 s4 m4
    clear m4
    have O4 : Only (fun b => b = g) w w4 := (O3.then_ U4).trans o4
    have E5 := (E4.next U4).only o4 (fun (h : _ = _) => by omega)
    have R5 := (R4.next U4).only o4 (fun (h : _ = _) => by omega)
    have e5 := E5.cell
    have e5f := E5.frozen
    have r5 := R5.cell
    have r5f := R5.frozen
    clear U4 B4 hmk hcv'
    go_wp2_with fail
    refine bodyPost_ret (v := .agg #[.string s4, .string s2]) (by simp [results, Tryd.results55, go_sem, r5]) rfl ⟨⟨s4, s2⟩, rfl, ⟨z4, z2⟩, ?_, ?_⟩
    · exact (c4.keep (S := fun b => b = w2.heap.size ∨ b = w.heap.size) (((Only.refl _ _).setCell (p := ⟨w2.heap.size, 0, none⟩) (.inl rfl) _).setCell (p := ⟨w.heap.size, 0, none⟩) (.inr rfl) _ |>.setCell (p := ⟨w.heap.size, 1, none⟩) (.inr rfl) _) (by omega) (fun b hb => by omega)).more (by omega)
    · exact only_new (only_new (only_new O4 (p := ⟨w2.heap.size, 0, none⟩) (Nat.le_of_lt (by show w.heap.size < _; omega)) _) (p := ⟨w.heap.size, 0, none⟩) (Nat.le_refl _) _) (p := ⟨w.heap.size, 1, none⟩) (Nat.le_refl _) _
  have d0 : ((q : Int) == 0) = false := beq_eq_false_iff_ne.2 (by omega)
  by_cases q1 : q = 1
  · subst q1
    have U4 : Below w3.heap.size w3 (w3.alloc (.cells #[.string ⟨#[35]⟩, .string ⟨#[10]⟩, .string ⟨#[127]⟩] 9)) := (Below.refl _ _).alloc (Nat.le_refl _) _
    have B4 : Blk (w3.alloc (.cells #[.string ⟨#[35]⟩, .string ⟨#[10]⟩, .string ⟨#[127]⟩] 9)) w3.heap.size 9 (([⟨#[35]⟩, ⟨#[10]⟩, ⟨#[127]⟩] : List ByteArray).map Value.string) := Blk.at_ rfl
    go_wp2_with fail
    refine (of_any g _ w3.heap.size 3 _ [⟨#[35]⟩, ⟨#[10]⟩, ⟨#[127]⟩] _ B4 (by have := c3.lt; omega) (c3.next U4) (by omega) rfl (by decide) (by decide)).mono ?_
    rintro e w4 ⟨s4, rfl, m4, c4, o4⟩
    have z4 := texts4 s4 m4
    clear m4
    have O4 : Only (fun b => b = g) w w4 := (O3.then_ U4).trans o4
    have E5 := (E4.next U4).only o4 (fun (h : _ = _) => by omega)
    have R5 := (R4.next U4).only o4 (fun (h : _ = _) => by omega)
    have e5 := E5.cell
    have e5f := E5.frozen
    have r5 := R5.cell
    have r5f := R5.frozen
    clear U4 B4
    go_wp2_with fail
    refine bodyPost_ret (v := .agg #[.string s1, .string s4]) (by simp [results, Tryd.results55, go_sem, r5]) rfl ⟨⟨s1, s4⟩, rfl, ⟨z1, z4⟩, ?_, ?_⟩
    · exact (c4.keep (S := fun b => b = w2.heap.size ∨ b = w.heap.size) (((Only.refl _ _).setCell (p := ⟨w2.heap.size, 1, none⟩) (.inl rfl) _).setCell (p := ⟨w.heap.size, 0, none⟩) (.inr rfl) _ |>.setCell (p := ⟨w.heap.size, 1, none⟩) (.inr rfl) _) (by omega) (fun b hb => by omega)).more (by omega)
    · exact only_new (only_new (only_new O4 (p := ⟨w2.heap.size, 1, none⟩) (Nat.le_of_lt (by show w.heap.size < _; omega)) _) (p := ⟨w.heap.size, 0, none⟩) (Nat.le_refl _) _) (p := ⟨w.heap.size, 1, none⟩) (Nat.le_refl _) _
  have d1 : ((q : Int) == 1) = false := beq_eq_false_iff_ne.2 (by omega)
  have e4 := E4.cell
  have r4 := R4.cell
  have r4f := R4.frozen
  go_wp2_with fail
  refine bodyPost_ret (v := .agg #[.string s1, .string s2]) (by simp [results, Tryd.results55, go_sem, r4]) rfl ⟨⟨s1, s2⟩, rfl, ⟨z1, z2⟩, ?_, ?_⟩
  · exact (c3.keep (S := fun b => b = w.heap.size) (only_set (only_set (Only.refl _ _) 0 _) 1 _) (by omega) (fun b hb => by omega)).more (by omega)
  · exact only_new (only_new O3 (p := ⟨w.heap.size, 0, none⟩) (Nat.le_refl _) _) (p := ⟨w.heap.size, 1, none⟩) (Nat.le_refl _) _

end Go.Proofs.YtjangfhelagjnaaDoor
