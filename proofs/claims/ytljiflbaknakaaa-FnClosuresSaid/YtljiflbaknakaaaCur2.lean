/- The cursor's draws: a yes, one of some texts, one of some numbers, a spoilt text. -/
import Derived.Test.YtljiflbaknakaaaCur
import Derived.Test.YtljiflbaknakaaaText
namespace Go.Proofs.Ytljiflbaknakaaa
open Go.RowKit

def DrawnB (w : World) (g n : Nat) (e : Ending) (w' : World) : Prop := ∃ b : Bool, e = .returned (.bool b) ∧ Cur w' g n ∧ Only (fun b => b = g) w w'
def DrawnT (w : World) (g n : Nat) (P : ByteArray → Prop) (e : Ending) (w' : World) : Prop := ∃ s, e = .returned (.string s) ∧ P s ∧ Cur w' g n ∧ Only (fun b => b = g) w w'
def DrawnI (w : World) (g n : Nat) (P : Int → Prop) (e : Ending) (w' : World) : Prop := ∃ s, e = .returned (.int .i64 s) ∧ P s ∧ Cur w' g n ∧ Only (fun b => b = g) w w'

theorem one_any (k : Int) (g n : Nat) (w : World) (h : Cur w g n) (hn : n ≤ 999000) (h0 : 1 ≤ k) (h1 : k ≤ 1000000000) :
    Calls Try.prog 100 #[.pointer (some ⟨g, 0, none⟩), .int .i64 k] w (DrawnB w g (n + 2)) := by
  go_enter Try.func100, Try.ntmps100
  go_wp2_with fail
  refine (pick_any k g n w h hn h0 h1).mono ?_
  rintro e w1 ⟨r, rfl, hr, c1, o1⟩
  go_wp2_with fail
  go_ret
  exact ⟨_, rfl, c1, o1⟩

theorem among_any (g n b m : Nat) (t : TypeId) (L : List Int) (w : World) (hB : Blk w b t (ints L)) (hne : b ≠ g) (h : Cur w g n) (hn : n ≤ 999000) (hL : L.length = m) (h0 : 1 ≤ m) (h1 : m ≤ 1000) :
    Calls Try.prog 99 #[.pointer (some ⟨g, 0, none⟩), .slice (some ⟨b, 0, none⟩) m m] w (DrawnI w g (n + 2) (· ∈ L)) := by
  have HL := Lib.hid hL
  clear hL
  go_enter Try.func99, Try.ntmps99
  go_wp2_with fail
  refine (pick_any m g n w h hn (by omega) (by omega)).mono ?_
  rintro e w1 ⟨r, rfl, hr, c1, o1⟩
  have hr1 : r < m := by simp at hr; omega
  have hr2 : (r : Int) < (m : Int) := by omega
  have hr3 : r < L.length := by rw [HL.out]; exact hr1
  have hc : w1.cell? ⟨b, r, none⟩ = some (.int .i64 L[r]) := by
    rw [(hB.only o1 hne).cell r]
    exact ints_get L r hr3
  clear hr
  go_wp2_with fail
  go_ret
  exact ⟨_, rfl, List.getElem_mem hr3, c1, o1⟩

end Go.Proofs.Ytljiflbaknakaaa
