/- TopAsks: runs. -/
import Derived.Test.YtpegimipbigmbaaGreatDoorTaC
import Derived.Test.YtpegimipbigmbaaGreatDoorYtpeLx
import Derived.Test.YtpegimipbigmbaaGreatDoorBaS
set_option maxRecDepth 100000
namespace Go.Proofs.YtpegimipbigmbaaGreatDoor.topAsks
open Go.Am Go.Proofs.YtpegimipbigmbaaGreatDoor.Facts Bodies
theorem qU3 : rU3 XZ tabS = true := by kernel_rfl
theorem qT03 : rT0 XZ tabS tB3 8 14 = true := by kernel_rfl
theorem qL13 : rL13 XZ tabS = true := by kernel_rfl
theorem qC0_10 : rC0 XZ tabS 10 = true := by kernel_rfl
theorem qC1_10 : rC1 XZ tabS 10 = true := by kernel_rfl
theorem qC2_10 : rC2 XZ tabS 10 = true := by kernel_rfl
theorem qB0_10 : rB0 XZ tabS 10 = true := by kernel_rfl
theorem qB1_10 : rB1 XZ tabS 10 = true := by kernel_rfl
theorem qB2_10 : rB2 XZ tabS 10 = true := by kernel_rfl
theorem qA0_10 : rA0 XZ tabS 10 = true := by kernel_rfl
theorem qA1_10 : rA1 XZ tabS 10 = true := by kernel_rfl
theorem qA2_10 : rA2 XZ tabS 10 = true := by kernel_rfl
theorem qD0_10 : rD0 XZ tabS 10 = true := by kernel_rfl
theorem qD1_10 : rD1 XZ tabS 10 = true := by kernel_rfl
theorem qD2_10 : rD2 XZ tabS 10 = true := by kernel_rfl
end Go.Proofs.YtpegimipbigmbaaGreatDoor.topAsks
