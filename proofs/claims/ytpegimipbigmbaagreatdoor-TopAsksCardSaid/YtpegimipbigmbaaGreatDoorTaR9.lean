/- TopAsks: runs. -/
import Derived.Test.YtpegimipbigmbaaGreatDoorTaC
import Derived.Test.YtpegimipbigmbaaGreatDoorYtpeLx
import Derived.Test.YtpegimipbigmbaaGreatDoorBaS
set_option maxRecDepth 100000
namespace Go.Proofs.YtpegimipbigmbaaGreatDoor.topAsks
open Go.Am Go.Proofs.YtpegimipbigmbaaGreatDoor.Facts Bodies
theorem qU10 : rU10 XZ tabS = true := by kernel_rfl
theorem qL04 : rL04 XZ tabS = true := by kernel_rfl
theorem qL20 : rL20 XZ tabS = true := by kernel_rfl
theorem qC0_3 : rC0 XZ tabS 3 = true := by kernel_rfl
theorem qC1_3 : rC1 XZ tabS 3 = true := by kernel_rfl
theorem qC2_3 : rC2 XZ tabS 3 = true := by kernel_rfl
theorem qB0_3 : rB0 XZ tabS 3 = true := by kernel_rfl
theorem qB1_3 : rB1 XZ tabS 3 = true := by kernel_rfl
theorem qB2_3 : rB2 XZ tabS 3 = true := by kernel_rfl
theorem qA0_3 : rA0 XZ tabS 3 = true := by kernel_rfl
theorem qA1_3 : rA1 XZ tabS 3 = true := by kernel_rfl
theorem qA2_3 : rA2 XZ tabS 3 = true := by kernel_rfl
theorem qD0_3 : rD0 XZ tabS 3 = true := by kernel_rfl
theorem qD1_3 : rD1 XZ tabS 3 = true := by kernel_rfl
theorem qD2_3 : rD2 XZ tabS 3 = true := by kernel_rfl
end Go.Proofs.YtpegimipbigmbaaGreatDoor.topAsks
