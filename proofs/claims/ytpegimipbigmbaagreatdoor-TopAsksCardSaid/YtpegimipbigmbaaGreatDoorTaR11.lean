/- TopAsks: runs. -/
import Derived.Test.YtpegimipbigmbaaGreatDoorTaC
import Derived.Test.YtpegimipbigmbaaGreatDoorYtpeLx
import Derived.Test.YtpegimipbigmbaaGreatDoorBaS
set_option maxRecDepth 100000
namespace Go.Proofs.YtpegimipbigmbaaGreatDoor.topAsks
open Go.Am Go.Proofs.YtpegimipbigmbaaGreatDoor.Facts Bodies
theorem qT12 : rT1 XZ tabS tB2 4 6 = true := by kernel_rfl
theorem qL22 : rL22 XZ tabS = true := by kernel_rfl
theorem qC0_5 : rC0 XZ tabS 5 = true := by kernel_rfl
theorem qC1_5 : rC1 XZ tabS 5 = true := by kernel_rfl
theorem qC2_5 : rC2 XZ tabS 5 = true := by kernel_rfl
theorem qB0_5 : rB0 XZ tabS 5 = true := by kernel_rfl
theorem qB1_5 : rB1 XZ tabS 5 = true := by kernel_rfl
theorem qB2_5 : rB2 XZ tabS 5 = true := by kernel_rfl
theorem qA0_5 : rA0 XZ tabS 5 = true := by kernel_rfl
theorem qA1_5 : rA1 XZ tabS 5 = true := by kernel_rfl
theorem qA2_5 : rA2 XZ tabS 5 = true := by kernel_rfl
theorem qD0_5 : rD0 XZ tabS 5 = true := by kernel_rfl
theorem qD1_5 : rD1 XZ tabS 5 = true := by kernel_rfl
theorem qD2_5 : rD2 XZ tabS 5 = true := by kernel_rfl
end Go.Proofs.YtpegimipbigmbaaGreatDoor.topAsks
