/- TopAsks: runs. -/
import Derived.Test.YtpegimipbigmbaaGreatDoorTaC
import Derived.Test.YtpegimipbigmbaaGreatDoorYtpeLx
import Derived.Test.YtpegimipbigmbaaGreatDoorBaS
set_option maxRecDepth 100000
namespace Go.Proofs.YtpegimipbigmbaaGreatDoor.topAsks
open Go.Am Go.Proofs.YtpegimipbigmbaaGreatDoor.Facts Bodies
theorem qU4 : rU4 XZ tabS = true := by kernel_rfl
theorem qT04 : rT0 XZ tabS tB4 16 30 = true := by kernel_rfl
theorem qL14 : rL14 XZ tabS = true := by kernel_rfl
theorem qC0_11 : rC0 XZ tabS 11 = true := by kernel_rfl
theorem qC1_11 : rC1 XZ tabS 11 = true := by kernel_rfl
theorem qC2_11 : rC2 XZ tabS 11 = true := by kernel_rfl
theorem qB0_11 : rB0 XZ tabS 11 = true := by kernel_rfl
theorem qB1_11 : rB1 XZ tabS 11 = true := by kernel_rfl
theorem qB2_11 : rB2 XZ tabS 11 = true := by kernel_rfl
theorem qA0_11 : rA0 XZ tabS 11 = true := by kernel_rfl
theorem qA1_11 : rA1 XZ tabS 11 = true := by kernel_rfl
theorem qA2_11 : rA2 XZ tabS 11 = true := by kernel_rfl
theorem qD0_11 : rD0 XZ tabS 11 = true := by kernel_rfl
theorem qD1_11 : rD1 XZ tabS 11 = true := by kernel_rfl
theorem qD2_11 : rD2 XZ tabS 11 = true := by kernel_rfl
end Go.Proofs.YtpegimipbigmbaaGreatDoor.topAsks
