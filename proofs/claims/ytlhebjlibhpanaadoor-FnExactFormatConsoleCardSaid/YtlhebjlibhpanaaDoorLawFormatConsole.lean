/- The walk of the law FnExactFormatConsole. -/
import Derived.Test.YtlhebjlibhpanaaDoorConV
import Derived.Test.YtlhebjlibhpanaaDoorConZ
import Derived.Test.YtlhebjlibhpanaaDoorConFs
namespace Go.Proofs.YtlhebjlibhpanaaDoor
open Go.RowKit

set_option maxRecDepth 100000 in
set_option maxHeartbeats 4000000 in
theorem FnExactFormatConsole_any (t : Int) (b : Bool) (l : Log) (A : Option Addr) (n c : Nat) (xs : List Entrant) (w : World) (hx : SeesN entrantSh w 0 A n xs) (hn3 : n ≤ 9223372036854775807 ∧ (∀ x ∈ xs, x.cnt ≤ 9223372036854775807) ∧ l.upto 9223372036854775807) (hg : Gl w) :
    Calls Tryd.prog 4 #[.agg #[.int .i64 t, .bool b, .slice A n c, .string l.durable, .string l.pending, .int .i64 l.count]] w fun e w' => e = .returned (.bool true) ∧ Below w.heap.size w w' := by
  go_enter Tryd.func4, Tryd.ntmps4
  have K : Below w.heap.size w (w.alloc (.cells #[.int .i64 t, .bool b, .slice A n c, .string l.durable, .string l.pending, .int .i64 l.count] 28)) := (Below.refl w.heap.size w).alloc (Nat.le_refl _) _
  have Bc : Blk (w.alloc (.cells #[.int .i64 t, .bool b, .slice A n c, .string l.durable, .string l.pending, .int .i64 l.count] 28)) w.heap.size 28 [.int .i64 t, .bool b, .slice A n c, .string l.durable, .string l.pending, .int .i64 l.count] := Blk.at_ rfl
  have hx0 := hx.next K
  have hg0 := hg.next K
  go_wp2_with fail
  generalize (w.alloc (.cells #[.int .i64 t, .bool b, .slice A n c, .string l.durable, .string l.pending, .int .i64 l.count] 28)) = w0 at *
  have cm := Bc.cell
  go_wp2_with fail
  refine (szConsole_any t b l A n c xs _ w0 hx0 hn3.2.1 hn3.1 hn3.2.2 (by omega) (by omega)).mono ?_
  rintro e w1 ⟨q, rfl, b, rfl | ⟨hq, hn, hwt, hu⟩⟩
  · go_wp2_with fail
    go_ret
    exact ⟨rfl, bel_then K b⟩
  clear cm
  replace Bc := Bc.next b
  replace hx0 := hx0.next b
  replace hg0 := hg0.next b
  replace K := bel_then K b
  clear b
  have hi : ∀ x ∈ xs, x.cnt ≤ 1048576 := fun x h => Nat.le_trans (wtN_mem Entrant.cnt h) hwt
  clear hn3 hwt hx hg
  have cm := Bc.cell
  go_wp2_with fail
  refine (toConsole_any t b l A n c xs w1 hx0 hn hi).mono ?_
  rintro e w2 ⟨A2, rfl, M2, b⟩
  clear cm
  replace Bc := Bc.next b
  replace hx0 := hx0.next b
  replace hg0 := hg0.next b
  replace K := bel_then K b
  clear b
  have X2 := M2.sees
  clear M2
  have cm := Bc.cell
  go_wp2_with fail
  refine (specFormatConsole_any t b l A2 n n xs w2 X2 hn hi hu).mono ?_
  rintro e w3 ⟨rfl, b⟩
  clear cm X2
  replace Bc := Bc.next b
  replace hx0 := hx0.next b
  replace hg0 := hg0.next b
  replace K := bel_then K b
  clear b
  have cm := Bc.cell
  go_wp2_with fail
  refine (toConsole_any t b l A n c xs w3 hx0 hn hi).mono ?_
  rintro e w4 ⟨A4, rfl, M4, b⟩
  clear cm
  replace Bc := Bc.next b
  replace hx0 := hx0.next b
  replace hg0 := hg0.next b
  replace K := bel_then K b
  clear b
  have X4 := M4.sees
  clear M4
  have U : Below w4.heap.size w4 (w4.alloc (.cells #[.int .i64 t, .bool b, .slice A4 n n, .string l.durable, .string l.pending, .int .i64 l.count] 36)) := (Below.refl _ _).alloc (Nat.le_refl _) _
  have Bx : Blk (w4.alloc (.cells #[.int .i64 t, .bool b, .slice A4 n n, .string l.durable, .string l.pending, .int .i64 l.count] 36)) w4.heap.size 36 [.int .i64 t, .bool b, .slice A4 n n, .string l.durable, .string l.pending, .int .i64 l.count] := Blk.at_ rfl
  replace Bc := Bc.next U
  replace hx0 := hx0.next U
  replace hg0 := hg0.next U
  replace X4 := X4.next U
  replace K := bel_then K U
  clear U
  have cm := Bc.cell
  have cx := Bx.cell
  go_wp2_with fail
  generalize (w4.alloc (.cells #[.int .i64 t, .bool b, .slice A4 n n, .string l.durable, .string l.pending, .int .i64 l.count] 36)) = w5 at *
  generalize w4.heap.size = g at *
  refine (FormatConsole_any t b l A4 n n xs w5 X4 hn hi hu hg0).mono ?_
  rintro e w6 ⟨rfl, b⟩
  clear cm cx
  replace Bc := Bc.next b
  replace hx0 := hx0.next b
  replace X4 := X4.next b
  replace Bx := Bx.next b
  replace K := bel_then K b
  clear b
  generalize (formC t b l xs).getD ⟨#[]⟩ = vs at *
  generalize (formC t b l xs).isSome = vb at *
  have eB : (vb != vb) = false := bne_self_eq_false vb
  have cm := Bc.cell
  have cx := Bx.cell
  go_wp2_with fail
  have b := (Quiet.one w6).below w6.heap.size
  replace Bc := Bc.next b
  replace hx0 := hx0.next b
  replace X4 := X4.next b
  replace Bx := Bx.next b
  replace K := bel_then K b
  clear b
  clear cm cx eB
  have Kq := K
  clear K
  have cm := Bc.cell
  have cx := Bx.cell
  go_region_held3 (fun w' => w'.cell? ⟨w.heap.size, 0, none⟩ = some (.int .i64 t) ∧ w'.cell? ⟨w.heap.size, 1, none⟩ = some (.bool b) ∧ w'.cell? ⟨w.heap.size, 2, none⟩ = some (.slice A n c) ∧ w'.cell? ⟨w.heap.size, 3, none⟩ = some (.string l.durable) ∧ w'.cell? ⟨w.heap.size, 4, none⟩ = some (.string l.pending) ∧ w'.cell? ⟨w.heap.size, 5, none⟩ = some (.int .i64 l.count) ∧ w'.cell? ⟨g, 0, none⟩ = some (.int .i64 t) ∧ w'.cell? ⟨g, 1, none⟩ = some (.bool b) ∧ w'.cell? ⟨g, 2, none⟩ = some (.slice A4 n n) ∧ w'.cell? ⟨g, 3, none⟩ = some (.string l.durable) ∧ w'.cell? ⟨g, 4, none⟩ = some (.string l.pending) ∧ w'.cell? ⟨g, 5, none⟩ = some (.int .i64 l.count)) (go_keep)
    (first
      | (go_at_call 7
         refine (toConsole_any t b l A n c xs _ hx0 hn hi).mono ?_
         rintro e w8 ⟨A8, rfl, M8, b⟩
         replace Kq := bel_then Kq b
         replace Bc := Bc.next b
         replace Bx := Bx.next b
         replace X4 := X4.next b
         clear b cm cx
         have X8 := M8.sees
         clear M8
         have cm := Bc.cell
         have cx := Bx.cell)
      | (go_at_call 9
         refine (eqConsole_any t b l A4 A8 n n n n _ _ _ _ _ X4 X8 rfl hn hi).mono ?_
         rintro e w9 ⟨rfl, b⟩
         replace Kq := bel_then Kq b
         replace Bc := Bc.next b
         replace Bx := Bx.next b
         clear b cm cx
         have cm := Bc.cell
         have cx := Bx.cell))
  go_wp2_with fail
  go_ret
  exact ⟨rfl, Kq⟩

end Go.Proofs.YtlhebjlibhpanaaDoor
