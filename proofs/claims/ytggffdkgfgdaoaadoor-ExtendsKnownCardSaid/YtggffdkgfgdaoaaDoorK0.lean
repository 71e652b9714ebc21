/- ExtendsKnown: what is asked, closed. -/
import Derived.Test.YtggffdkgfgdaoaaDoorC2
import Derived.Test.YtggffdkgfgdaoaaDoorT9
import Derived.Test.YtggffdkgfgdaoaaDoorD6
namespace Go.Proofs.YtggffdkgfgdaoaaDoor
set_option linter.unusedVariables false
set_option linter.unusedSimpArgs false
def kArc : Ac := ⟨0, 0, gC, 0, [uA], 0⟩
def kX : Xt := ⟨2, 2, 1, [(nmN, 0, 63)], [0], [kArc]⟩
def kY : Xt := ⟨2, 2, 1, [(nmN, 0, 64)], [0], [kArc]⟩
set_option maxRecDepth 100000
theorem kX_ok : xtR kX = 0 := by kernel_rfl
theorem kY_ok : xtR kY = 0 := by kernel_rfl
theorem kX_u : (unfR kX).map (fun r => (r.1.length, r.2.length, r.2[63]?)) = some (64, 64, some [(-1, -1), (-1, -1)]) := by kernel_rfl
theorem kY_u : unfR kY = none := by kernel_rfl
/-- The twelve variables. -/
def kName (i : Nat) : ByteArray := ⟨#[118, (97 + i).toUInt8]⟩
def kVars (n : Nat) : List Vt := (List.range n).map (fun i => (kName i, 0, 1))
def zA : Ac := ⟨0, 0, .mk 6 0 [.mk 1 0 [], .mk 0 1 []], 0, [], 0⟩
def zB : Ac := ⟨0, 0, .mk 6 0 [.mk 1 11 [], .mk 0 1 []], 0, [], 0⟩
def kZ : Xt := ⟨1, 1, 1, kVars 12, List.replicate 12 0, [zA, zB]⟩
def kZ2 : Xt := ⟨1, 1, 1, kVars 12 ++ [(⟨#[109, 111, 114, 101]⟩, 0, 1)], List.replicate 13 0, [zA, zB]⟩
def kZ3 : Xt := ⟨1, 1, 1, kVars 12 ++ [(⟨#[97, 108, 108]⟩, -2147483648, 2147483648)], List.replicate 13 0, [zA, zB]⟩
theorem kZ_ok : xtR kZ = 0 := by kernel_rfl
theorem kZ2_ok : xtR kZ2 = 0 := by kernel_rfl
theorem kZ3_ok : xtR kZ3 = 0 := by kernel_rfl
theorem kZ_c : combR kZ.vars = 4096 := by kernel_rfl
theorem kZ2_c : combR kZ2.vars = 4097 := by kernel_rfl
theorem kZ3_c : combR kZ3.vars = 4097 := by kernel_rfl
def kHit : List Int := [1, 0, 0, 0, 0, 0, 0, 0, 0, 0, 0, 1]
theorem kZ_f : (domL kZ.vars).find? (fun xs => hitR kZ zA zB xs) = some kHit := by kernel_rfl
theorem kZ_at : CfAt kZ 0 1 kHit := by
  refine ⟨by omega, ⟨zA, zB, rfl, rfl, ?_⟩, fun i k h1 h2 => by omega⟩
  rw [← pairR_eq kZ_ok (by simp [kZ]) (by simp [kZ])]
  unfold pairR
  rw [if_pos (show zA.inp = zB.inp from rfl)]
  exact kZ_f
def gBig : Tr := .mk 8 0 [.mk 0 0 [], .mk 5 0 [.mk 1 0 [], .mk 1 0 []]]
def kBig : Xt := ⟨1, 2, 1, [(nmN, -2147483648, 2147483648)], [46341], [⟨0, 0, gBig, 0, [], 0⟩, ⟨0, 0, gC, 1, [uC], 0⟩]⟩
theorem kBig_ok : xtR kBig = 0 := by kernel_rfl
theorem kBig_r : runF kBig (some (0, [46341])) [0, 0, 0] = [1, 0, 0] := by kernel_rfl
end Go.Proofs.YtggffdkgfgdaoaaDoor
