/- The table of powers: from the row's condition to the cells; a world in which it lies. -/
import Derived.Test.YtajccgmeminlhaaGreatDoorRows
import Derived.Test.YtajccgmeminlhaaGreatDoorField
import Derived.LaidLaws
import Derived.Lib.LaidTab
import Derived.ChangeBears2
import Derived.Handed
namespace Go.Proofs.YtajccgmeminlhaaGreatDoor
open Go.ChangeShapes Go.WideShapes Go.RowKit
set_option maxRecDepth 100000 in
theorem laid_is : (Rows.laid_letterbag_field_powers : DataW Unit) = Lib.tabData .u8 ipows := by kernel_rfl
set_option maxRecDepth 100000 in
theorem pw_of_laid {W : World} (h : laidMet Tryz.prog [("letterbag/field.powers", Rows.laid_letterbag_field_powers)] W) : PW W := by
  rw [laid_is] at h
  have hg : Tryz.prog.globalNamed "letterbag/field.powers" = some 1 := by kernel_rfl
  have ht := Lib.tabIs_of_head (g := 1) (t := 204) (e := 5) (n := 63) hg (by kernel_rfl) Tryz.underlying204 Tryz.underlying5 (by kernel_rfl) (by kernel_rfl) h
  have hc : ∀ i, i < 63 → W.cell? ⟨1, i, none⟩ = some (.int .u8 (ipows.getD i 0)) := fun i hi => by
    have h1 := World.var?_cell hg ht i
    rw [h1]
    have hl : ipows.length = 63 := by decide
    simp [List.getD_eq_getElem?_getD, List.getElem?_eq_getElem (show i < ipows.length by omega)]
  exact ⟨World.block_lt_of_cell? _ _ (hc 0 (by omega)), hc⟩
/-- The settled world, the table laid in it. -/
noncomputable def laidWorld (os : Os) : World :=
  { World.holding Tryz.prog os ⟨#[], #[], []⟩ with heap := (World.holding Tryz.prog os ⟨#[], #[], []⟩).heap.modify 1 fun
      | .cells _ t frozen => .cells (ipows.map (Value.int .u8)).toArray t frozen
      | o => o }
theorem laid_met (os : Os) (args : Array Value) : laidMet Tryz.prog [("letterbag/field.powers", Rows.laid_letterbag_field_powers)] ((laidWorld os).forCall (fun _ _ => 0) ⟨#[], args, []⟩).memory :=
  laidMet_of_run' 8 (by kernel_rfl) (by kernel_rfl)
theorem wf_u8 {x : Int} (h : (Lit.int .u8 x).wf = true) : 0 ≤ x ∧ x < 256 := by
  simp [Lit.wf, IntKind.min, IntKind.max, IntKind.signed, IntKind.bits] at h; omega
theorem wf_i64 {x : Int} (h : (Lit.int .i64 x).wf = true) : -9223372036854775808 ≤ x ∧ x < 9223372036854775808 := by
  simp [Lit.wf, IntKind.min, IntKind.max, IntKind.signed, IntKind.bits] at h; omega
end Go.Proofs.YtajccgmeminlhaaGreatDoor
