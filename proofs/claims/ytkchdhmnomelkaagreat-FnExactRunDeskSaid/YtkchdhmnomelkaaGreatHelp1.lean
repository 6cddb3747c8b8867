/- The law's own helpers over []int and []Missing. -/
import Derived.Test.YtkchdhmnomelkaaGreatBase
import Derived.Test.YtkchdhmnomelkaaGreatChecked
namespace Go.Proofs.YtkchdhmnomelkaaGreat
open Go.RowKit

theorem info_int : (Tryz.prog.info? 3).map (fun i => (i.zero, i.size, i.bytes)) = some (some (.int .i64 0), 1, 8) := by kernel_rfl

theorem toIntS_any (A : Option Addr) (n c : Nat) (xs : List Int) (w : World) (hx : Sees w 0 1 A n (ints xs)) (hn : n ≤ 1048576) :
    Calls Tryz.prog 29 #[.slice A n c] w fun e w' => ∃ A', e = .returned (.slice A' n n) ∧ w'.ownsRow w.heap.size 3 1 (.slice A' n n) n (ints xs) ∧ Below w.heap.size w w' := by
  have hl := hx.icount
  obtain ⟨zs, hzs, hmk⟩ := make_zeros (P := Tryz.prog) n Tryz.underlying22 info_int (by omega) (by omega)
  go_enter Tryz.func29, Tryz.ntmps29
  go_wp2
  have hB := Blk.new w 3 zs
  have hb0 : Below w.heap.size w (w.alloc (.cells zs.toArray 3)) := (Below.refl _ _).alloc (Nat.le_refl _) _
  clear hmk
  go_loopw [4] (fun v wr => ∃ (k : Nat) (cs : List Value), k ≤ n ∧ v = .int .i64 k ∧ Blk wr w.heap.size 3 cs ∧ cs.length = n * 1 ∧ Upto (fun x => [Value.int .i64 x]) 1 xs k cs ∧ Below w.heap.size w wr) (fun v _ => n - (intOf v).toNat)
  case atStart => exact ⟨0, zs, Nat.zero_le _, rfl, hB, hzs, Upto.zero (by rw [hzs, hl]; exact Nat.le_refl _), hb0⟩
  case round =>
    obtain ⟨k, cs, hk, rfl, hB, hcl, hu, hb⟩ := hrel
    by_cases hlt : k < n
    · obtain ⟨b, off, rfl, hkx, hcx⟩ := (hx.next hb).int hlt
      have hlen : k < cs.length := by omega
      have hcell := (hB.cell k).trans (List.getElem?_eq_getElem hlen)
      have hfr := hB.frozen k
      go_wp2
      go_roundw
      case rel => exact ⟨k + 1, _, by omega, by go_num, hB.set_ k _, by rw [List.length_set, hcl], hu.step1 (fun _ => rfl) hkx, hb.setCell (Nat.le_refl _) _⟩
      case measure => simp [intOf]; omega
    · go_wp2
      go_ret
      have hcs := hu.all (fun _ => rfl) (by omega)
      rw [ints_flatMap, hl] at hcs
      exact ⟨_, rfl, own_shut (Nat.le_refl _) hB hcl (Nat.le_refl _) (by simp only [maxLen]; omega) hcs, hb⟩

theorem eqIntS_any (A A' : Option Addr) (n n' c c' lo lo' : Nat) (xs ys : List Int) (w : World) (hx : Sees w lo 1 A n (ints xs)) (hy : Sees w lo' 1 A' n' (ints ys)) (he : xs = ys) (hn : n ≤ 140737488355328) :
    Calls Tryz.prog 35 #[.slice A n c, .slice A' n' c'] w fun e w' => e = .returned (.bool true) ∧ Quiet w w' := by
  subst he
  have hl := hx.icount
  have hl' := hy.icount
  obtain rfl : n = n' := by omega
  go_enter Tryz.func35, Tryz.ntmps35
  go_wp2
  go_loopw [5] (fun v wr => ∃ k : Nat, k ≤ n ∧ v = .int .i64 k ∧ Quiet w wr) (fun v _ => n - (intOf v).toNat)
  case atStart => exact ⟨0, Nat.zero_le _, rfl, Quiet.refl _⟩
  case round =>
    obtain ⟨k, hk, rfl, hq⟩ := hrel
    by_cases hlt : k < n
    · obtain ⟨b, off, rfl, hkx, hcx⟩ := (hx.quiet hq).int hlt
      obtain ⟨b', off', rfl, hky, hcy⟩ := (hy.quiet hq).int hlt
      go_wp2
      go_quiet (fail)
      go_wp2
      go_roundw
      case rel => exact ⟨k + 1, by omega, by go_num, hq.more _⟩
      case measure => simp [intOf]; omega
    · go_wp2
      go_ret
      exact ⟨rfl, hq⟩

/-- The numbers from k on, n of them. -/
def marks (k : Int) (n : Nat) : List Int := (List.range n).map fun i : Nat => k + (i : Int)
theorem marks_length (k : Int) (n : Nat) : (marks k n).length = n := by simp [marks]
theorem marks_get (k : Int) (n i : Nat) (h : i < (marks k n).length) : (marks k n)[i] = k + i := by simp [marks]

theorem szIntS_any (A : Option Addr) (n c : Nat) (left : Int) (w : World) (hn : n ≤ 9223372036854775807) (hl : 0 ≤ left) (hl' : left ≤ 1048576) :
    Calls Tryz.prog 22 #[.slice A n c, .int .i64 left] w fun e w' => ∃ l : Int, e = .returned (.int .i64 l) ∧ w = w' ∧ (l = -1 ∨ 0 ≤ l ∧ l ≤ left ∧ (n : Int) ≤ left) := by
  by_cases hlt : left - n < 0
  · go_enter Tryz.func22, Tryz.ntmps22
    go_wp2
    go_ret
    exact ⟨_, rfl, rfl, .inl rfl⟩
  · go_enter Tryz.func22, Tryz.ntmps22
    go_wp2
    go_ret
    exact ⟨_, rfl, rfl, .inr ⟨by omega, by omega, by omega⟩⟩

theorem markIntS_any (S : Nat → Prop) (t n c : Nat) (A : Option Addr) (xs : List Int) (k0 : Int) (w : World) (hM : Mine w S t 1 A n c (ints xs)) (h0 : 0 ≤ k0) (h1 : k0 ≤ 1000000000000) (hn : n ≤ 140737488355328) :
    Calls Tryz.prog 39 #[.slice A n c, .int .i64 k0] w fun e w' => e = .returned (.int .i64 (k0 + n)) ∧ Mine w' S t 1 A n c (ints (marks k0 n)) ∧ Only S w w' := by
  obtain ⟨hown, htop⟩ := hM
  rcases own_open hown with ⟨rfl, rfl, rfl, hxs⟩ | ⟨g, cur, rfl, hg, hB, hcl, hnc, hcm, htk⟩
  · go_enter Tryz.func39, Tryz.ntmps39
    go_wp2
    refine wp_loop_rounds 1 ?_
    rw [rounds_succ]
    go_wp2
    go_ret
    exact ⟨by simp, ⟨World.ownsRow_nil _ _ _ _, htop⟩, Only.refl _ _⟩
  · have hS : S g := htop g rfl
    have hcl' : n * 1 ≤ cur.length := by omega
    clear hown htk
    go_enter Tryz.func39, Tryz.ntmps39
    go_wp2
    go_loopw [1, 5] (fun q v wr => ∃ (k : Nat) (cs : List Value), k ≤ n ∧ q = .int .i64 (k0 + k) ∧ v = .int .i64 k ∧ Blk wr g t cs ∧ cs.length = c * 1 ∧ Upto (fun x => [Value.int .i64 x]) 1 (marks k0 n) k cs ∧ Only S w wr) (fun _ v _ => n - (intOf v).toNat)
    case atStart => exact ⟨0, _, Nat.zero_le _, by simp, rfl, hB, hcl, Upto.zero (by rw [marks_length]; exact hcl'), Only.refl _ _⟩
    case round =>
      obtain ⟨k, cs, hk, rfl, rfl, hB, hcl, hu, ho⟩ := hrel
      by_cases hlt : k < n
      · have hlen : k < cs.length := by omega
        have hcell := (hB.cell k).trans (List.getElem?_eq_getElem hlen)
        have hfr := hB.frozen k
        have hkx : k < (marks k0 n).length := by rw [marks_length]; omega
        go_wp2
        go_roundw
        case rel => exact ⟨k + 1, _, by omega, by go_num, by go_num, hB.set_ k _, by rw [List.length_set, hcl], hu.step1 (fun _ => rfl) hkx (by rw [marks_get]), ho.setCell hS _⟩
        case measure => simp [intOf]; omega
      · go_wp2
        go_ret
        obtain rfl : k = n := by omega
        have hcs := hu.all (fun _ => rfl) (by rw [marks_length])
        rw [ints_flatMap, marks_length] at hcs
        exact ⟨rfl, ⟨own_shut hg hB hcl hnc hcm hcs, htop⟩, ho⟩

theorem heldIntS_any (lo n c : Nat) (A : Option Addr) (k0 : Int) (w : World) (hx : Sees w lo 1 A n (ints (marks k0 n))) (h0 : 0 ≤ k0) (h1 : k0 ≤ 1000000000000) (hn : n ≤ 140737488355328) :
    Calls Tryz.prog 43 #[.slice A n c, .int .i64 k0] w fun e w' => e = .returned (.int .i64 (k0 + n)) ∧ Quiet w w' := by
  go_enter Tryz.func43, Tryz.ntmps43
  go_wp2
  go_loopw [1, 5] (fun q v wr => ∃ k : Nat, k ≤ n ∧ q = .int .i64 (k0 + k) ∧ v = .int .i64 k ∧ Quiet w wr) (fun _ v _ => n - (intOf v).toNat)
  case atStart => exact ⟨0, Nat.zero_le _, by simp, rfl, Quiet.refl _⟩
  case round =>
    obtain ⟨k, hk, rfl, rfl, hq⟩ := hrel
    by_cases hlt : k < n
    · obtain ⟨b, off, rfl, hkx, hcx⟩ := (hx.quiet hq).int hlt
      rw [marks_get] at hcx
      go_wp2
      go_roundw
      case rel => exact ⟨k + 1, by omega, by go_num, by go_num, hq⟩
      case measure => simp [intOf]; omega
    · go_wp2
      go_ret
      obtain rfl : k = n := by omega
      exact ⟨rfl, hq⟩

end Go.Proofs.YtkchdhmnomelkaaGreat
