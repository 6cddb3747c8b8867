/- The law's own helpers over cards: printed by nest.py. -/
import Derived.Test.YtlhebjlibhpanaaNest
import Derived.Test.YtlhebjlibhpanaaPunchT
namespace Go.Proofs.Ytlhebjlibhpanaa
open Go.RowKit

theorem wtN_mem {α : Type} (f : α → Nat) {x : α} : ∀ {l : List α} (_ : x ∈ l), f x ≤ wtN f l
  | y :: l, h => by
    rcases List.mem_cons.1 h with rfl | h
    · simp only [wtN]; omega
    · have := wtN_mem f h; simp only [wtN]; omega
structure Card where
  number : Int
  start : Int
  finish : Int
  punches : List Punch
deriving DecidableEq
def cardSh : Sh Card := ⟨fun r => [(.int .i64 r.x.number), (.int .i64 r.x.start), (.int .i64 r.x.finish), (.slice r.A r.n r.c)], 4, 2, fun x => (x.punches.flatMap Punch.enc), by decide, fun _ => rfl⟩
def Card.cnt (x : Card) : Nat := x.punches.length
/-- how many marks it takes -/
def Card.wt (x : Card) : Nat := x.punches.length * 2 + 3
def Card.mark (k : Int) (x : Card) : Card := ⟨k, k + 1, k + 1 + 1, (marksOf Punch.mark 2 (k + 1 + 1 + 1) x.punches.length)⟩
theorem info_impl_Card : (Try.prog.info? 45).map (fun i => (i.zero, i.size, i.bytes)) = some (some (.agg #[.int .i64 0, .int .i64 0, .int .i64 0, .slice none 0 0]), 4, 48) := by kernel_rfl
theorem SeesCard.elem {w : World} {lo n k : Nat} {A : Option Addr} {xs : List Card} (h : SeesN cardSh w lo A n xs) (hk : k < n) :
    ∃ (b off : Nat) (B : Option Addr) (m d : Nat), A = some ⟨b, off, none⟩ ∧ ∃ hkx : k < xs.length, w.cell? ⟨b, off + k * 4, none⟩ = some (.int .i64 xs[k].number) ∧ w.cell? ⟨b, off + k * 4 + 1, none⟩ = some (.int .i64 xs[k].start) ∧ w.cell? ⟨b, off + k * 4 + 2, none⟩ = some (.int .i64 xs[k].finish) ∧ w.cell? ⟨b, off + k * 4 + 3, none⟩ = some (.slice B m d) ∧ Sees w lo 2 B m (xs[k].punches.flatMap Punch.enc) := by
  obtain ⟨rs, rfl, h2, h3⟩ := h
  obtain ⟨b, off, rfl, hkx, c0, c1, c2, c3⟩ := Sees.elem4 (enc := cardSh.enc) h2 (fun _ => rfl) hk
  have hx : (rs.map Hd.x)[k]'(by simpa using hkx) = rs[k].x := by simp
  refine ⟨b, off, rs[k].A, rs[k].n, rs[k].c, rfl, by simpa using hkx, ?_, ?_, ?_, ?_, ?_⟩
  · rw [c0, hx]
  · rw [c1, hx]
  · rw [c2, hx]
  · rw [c3]
  · rw [hx]; exact h3 rs[k] (List.getElem_mem hkx)

theorem Card.wt_total (xs : List Card) : wtN Card.wt xs = wtN Card.cnt xs * 2 + xs.length * 3 := by
  induction xs with
  | nil => rfl
  | cons x l ih => simp only [wtN, ih, List.length_cons, Card.wt, Card.cnt]; omega

theorem eqCard_any (A B : Option Addr) (n n' c c' lo lo' : Nat) (x y : Card) (w : World) (hx : Sees w lo 2 A n (x.punches.flatMap Punch.enc)) (hy : Sees w lo' 2 B n' (y.punches.flatMap Punch.enc)) (he : x = y) (hn : n ≤ 1048576) :
    Calls Try.prog 23 #[.agg #[(.int .i64 x.number), (.int .i64 x.start), (.int .i64 x.finish), (.slice A n c)], .agg #[(.int .i64 y.number), (.int .i64 y.start), (.int .i64 y.finish), (.slice B n' c')]] w fun e w' => e = .returned (.bool true) ∧ Below w.heap.size w w' := by
  subst he
  go_enter Try.func23, Try.ntmps23
  go_wp2_with fail
  have K0 : Below w.heap.size w _ := ((Below.refl w.heap.size w).alloc (Nat.le_refl _) (.cells #[(.int .i64 x.number), (.int .i64 x.start), (.int .i64 x.finish), (.slice A n c)] 45)).alloc (by simp) (.cells #[(.int .i64 x.number), (.int .i64 x.start), (.int .i64 x.finish), (.slice B n' c')] 45)
  refine (eqPunchS_any _ _ _ _ _ _ _ _ _ _ _ (hx.next K0) (hy.next K0) rfl (by omega)).mono ?_
  rintro e w1 ⟨rfl, b1⟩
  have K1 := bel_then K0 b1
  have P1 : Blk w1 w.heap.size 45 [(.int .i64 x.number), (.int .i64 x.start), (.int .i64 x.finish), (.slice A n c)] := ((Blk.at_ rfl).alloc _).next b1
  have P2 : Blk w1 (w.heap.size + 1) 45 [(.int .i64 x.number), (.int .i64 x.start), (.int .i64 x.finish), (.slice B n' c')] := (Blk.at_ (by simp)).next b1
  have p1 := P1.cell
  have p2 := P2.cell
  go_wp2_with fail
  go_ret
  exact ⟨rfl, K1⟩

end Go.Proofs.Ytlhebjlibhpanaa
