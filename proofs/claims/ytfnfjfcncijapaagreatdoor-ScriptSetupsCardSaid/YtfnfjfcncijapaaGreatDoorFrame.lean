/- What the rows' premises give the walks: the variables of Go's library; the world that meets them. -/
import Derived.Test.YtfnfjfcncijapaaGreatDoorRows
import Derived.Test.YtfnfjfcncijapaaGreatDoorEnv
import Derived.ProofKit
import Derived.OpenShut
import Derived.Lay
import Derived.LaidMore
import Derived.Lib.LaidTab
import Derived.Stop.LaidErr
import Derived.LaidLaws
namespace Go.Proofs.YtfnfjfcncijapaaGreatDoor
open Go.ChangeShapes Go.WideShapes Go.ChangeAt Go.RowKit

def laid9 : List (String × DataW Unit) := Rows.scriptParsesRow.laid
theorem own : ownKnob Tryz.prog.godebug = none := by kernel_rfl
theorem gSpc0 : Tryz.prog.globalNamed "strings.asciiSpace" = some 0 := by kernel_rfl
theorem tSpc0 : (Tryz.prog.globals[0]?).map (·.type) = some 137 := by kernel_rfl
theorem gPow7 : Tryz.prog.globalNamed "internal/strconv.uint64pow10" = some 7 := by kernel_rfl
theorem tPow7 : (Tryz.prog.globals[7]?).map (·.type) = some 238 := by kernel_rfl
theorem gSyn5 : Tryz.prog.globalNamed "strconv.ErrSyntax" = some 5 := by kernel_rfl
theorem tSyn5 : (Tryz.prog.globals[5]?).map (·.type) = some 87 := by kernel_rfl
theorem gRng6 : Tryz.prog.globalNamed "strconv.ErrRange" = some 6 := by kernel_rfl
theorem tRng6 : (Tryz.prog.globals[6]?).map (·.type) = some 87 := by kernel_rfl
theorem fcells5 : Tryz.prog.cellsOf 5 = 1 := by kernel_rfl
theorem fcells137 : Tryz.prog.cellsOf 137 = 256 := by kernel_rfl
theorem fcells113 : Tryz.prog.cellsOf 113 = 1 := by kernel_rfl
theorem fcells238 : Tryz.prog.cellsOf 238 = 20 := by kernel_rfl
theorem fcells232 : Tryz.prog.cellsOf 232 = 1 := by kernel_rfl
theorem fcells9 : Tryz.prog.cellsOf 9 = 1 := by kernel_rfl
theorem fstar : "*" ++ "errors.errorString" = "*errors.errorString" := by decide
theorem frow230 (u : TypeId) (h : Tryz.prog.typeName? 3 u = some "*errors.errorString") : u = 230 :=
  typeName_ptr_named (nm := "errors.errorString") (by rw [fstar]; kernel_rfl) (by kernel_rfl) (by decide) u (by rw [fstar]; exact h)

set_option maxRecDepth 100000 in
theorem env_of_laid {W : World} (h : laidMet Tryz.prog laid9 W) : Env W := by
  have h3 := h.tail.tail
  have h5 := h3.tail.tail
  have h6 := h5.tail
  have h8 := h6.tail.tail
  have hpow : Lib.TabIs Tryz.prog W "internal/strconv.uint64pow10" .u64 Lib.pow10Tab := Lib.tabIs_of_head gPow7 tPow7 Tryz.underlying238 Tryz.underlying113 fcells113 fcells238 h3
  have hspc : Lib.TabIs Tryz.prog W "strings.asciiSpace" .u8 Lib.asciiSpaceTab := Lib.tabIs_of_head gSpc0 tSpc0 Tryz.underlying137 Tryz.underlying5 fcells5 fcells137 h8
  obtain ⟨a, s, hr, _⟩ := laid_sentinel h5 gRng6 tRng6 Tryz.underlying87 frow230 Tryz.underlying230 Tryz.underlying232 rfl rfl Tryz.underlying9 fcells232 fcells9
  obtain ⟨a', s', hs, _⟩ := laid_sentinel h6 gSyn5 tSyn5 Tryz.underlying87 frow230 Tryz.underlying230 Tryz.underlying232 rfl rfl Tryz.underlying9 fcells232 fcells9
  refine ⟨?_, hspc, hpow, ⟨_, _, hs⟩, ⟨_, _, hr⟩⟩
  have hc : W.cell? ⟨7, 0, none⟩ = some (.int .u64 1) := by
    have := World.var?_cell gPow7 hpow 0
    simpa [Lib.pow10Tab] using this
  exact World.block_lt_of_cell? W _ hc

theorem laid_world (os : Os) (args : Array Value) : laidMetH Tryz.prog laid9 ((World.laidAll Tryz.prog os laid9).forCall (fun _ _ => 0) ⟨#[], args, []⟩).memory := by
  rw [MakeChecks.laidMetH_plain _ _ _ (by kernel_rfl)]
  exact laidMet_laidAll _ (by kernel_rfl) (by kernel_rfl)
theorem env_of_laidH {W : World} (h : laidMetH Tryz.prog laid9 W) : Env W := by
  rw [MakeChecks.laidMetH_plain _ _ _ (by kernel_rfl)] at h
  exact env_of_laid h

end Go.Proofs.YtfnfjfcncijapaaGreatDoor
