/- Joined texts of this proof: DoorK. -/
import Derived.Deep.DeepHandedRow
import Derived.JoinedCond
import Derived.LaidMore
import Derived.Lib.LaidTab
import Derived.SevenTiedAt
import Derived.Stop.Joined
import Derived.ProofKit
import Derived.Stop.LaidErr
import Derived.Lay
import Derived.Test.YtflpcdffmpfdpaaGreatDoorRows
import Derived.Test.YtflpcdffmpfdpaaGreatDoorB13
import Derived.Test.YtflpcdffmpfdpaaGreatDoorW01
set_option maxRecDepth 100000
set_option maxHeartbeats 8000000
namespace Go.Proofs.YtflpcdffmpfdpaaGreatDoor
open Go.ChangeShapes Go.WideShapes Go.ChangeAt Go.RowKit

theorem jti {α β γ : Type} {o : Option (α × List β × γ)} (h : (o.any fun x => x.2.1.isEmpty) = true) : ∃ a c, o = some (a, [], c) := by
  match o, h with
  | some (a, [], c), _ => exact ⟨a, c, rfl⟩
theorem tPowK : (Tryz.prog.globals[1]?).map (·.type) = some 237 := by kernel_rfl
theorem dPowK : (Rows.laid_internal_strconv_uint64pow10 : DataW Unit) = Lib.tabData .u64 Lib.pow10Tab := by kernel_rfl
theorem gESK : Tryz.prog.globalNamed "strconv.ErrSyntax" = some 2 := by kernel_rfl
theorem jtk : (Tryz.prog.globals[2]?).map (·.type) = some 169 := by kernel_rfl
theorem starK : "*" ++ "errors.errorString" = "*errors.errorString" := by decide
theorem rowESK (u : TypeId) (h : Tryz.prog.typeName? 3 u = some "*errors.errorString") : u = 261 :=
  typeName_ptr_named (nm := "errors.errorString") (by rw [starK]; kernel_rfl) (by kernel_rfl) (by decide) u (by rw [starK]; exact h)
theorem jtj : Tryz.prog.cellsOf 263 = 1 := by kernel_rfl
theorem jtb : Tryz.prog.cellsOf 9 = 1 := by kernel_rfl
theorem jsp {W : World} (hL : laidMetH Tryz.prog [("math/bits.deBruijn32tab", Rows.laid_math_bits_deBruijn32tab), ("math/bits.deBruijn64tab", Rows.laid_math_bits_deBruijn64tab), ("internal/strconv.uint64pow10", Rows.laid_internal_strconv_uint64pow10), ("unicode/utf8.acceptRanges", Rows.laid_unicode_utf8_acceptRanges), ("strconv.ErrRange", Rows.laid_strconv_ErrRange), ("strconv.ErrSyntax", Rows.laid_strconv_ErrSyntax), ("unicode/utf8.first", Rows.laid_unicode_utf8_first)] W) (hsh : W.ShapedOpen Tryz.prog) : GlE W := by
  have hml : ∃ m, W.cell? ⟨0, 0, none⟩ = some (.int .i64 m) := Go.Proofs.cell_of_shapedOpen_int (zero := #[.int .i64 0]) (t := 3) hsh (of_decide_eq_true (by kernel_rfl)) (by kernel_rfl) rfl (by kernel_rfl) (by kernel_rfl) Tryz.underlying3
  rw [MakeChecks.laidMetH_plain _ _ _ (by kernel_rfl)] at hL
  have hL2 := hL
  obtain ⟨ps, ⟨g0, t0, cs0, f0, p0, q0, hg0, ht0, hv0, hd0, ⟨g1, t1, cs1, f1, p1, q1, hg1, ht1, hv1, hd1, ⟨g2, t2, cs2, f2, p2, q2, hg2, ht2, hv2, hd2, _, _⟩, _⟩, _⟩, _, _⟩ := hL
  obtain ⟨a0, s0, hv9, -, -, -⟩ := laid_sentinel hL2.tail.tail.tail.tail.tail gESK jtk Tryz.underlying169 rowESK Tryz.underlying261 Tryz.underlying263 rfl rfl Tryz.underlying9 jtj jtb
  refine ⟨⟨?_, hml⟩, ⟨_, by have h0 := World.var?_cell gESK hv9 0; simpa using h0, Or.inr ⟨_, _, rfl⟩⟩⟩
  obtain rfl := Option.some.inj (gPow.symm.trans hg2)
  obtain rfl := Option.some.inj (tPowK.symm.trans ht2)
  rw [dPowK] at hd2
  unfold Lib.TabIs
  rw [hv2, ← Lib.cells_of_tab Tryz.underlying237 Tryz.underlying86 (by kernel_rfl) (by kernel_rfl) hd2]

end Go.Proofs.YtflpcdffmpfdpaaGreatDoor
