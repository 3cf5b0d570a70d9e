-- PRINTED BY print.sh 35421559b90ae4d0a3588c463048766b98c2df88dd9212a6774a882060cdf62d: not written by this session
import Derived.Test.YtlnaeppbhjmocaaDoorPnox0
namespace Go.Proofs.YtlnaeppbhjmocaaDoor.Pno
open Go.RowKit Go.Proofs.YtlnaeppbhjmocaaDoorW.PrintWords Go.Proofs.YtlnaeppbhjmocaaDoorW.PrintLast Go.Proofs.YtlnaeppbhjmocaaDoorW.PrintMore
attribute [local go_sem] max2_int min2_int max_two min_two max_three min_three max_four min_four   -- for this text's walks alone
set_option linter.unusedVariables false
set_option linter.unusedSimpArgs false

/-! ### shalelaw18_no: function 16 -/
def shalelaw18_no.f (a0 : Int) : Option (Int) := some a0
set_option maxHeartbeats 8000000 in
set_option maxRecDepth 100000 in
theorem shalelaw18_no.calls (a0 : Int) (r : Int) (w : World) (h : shalelaw18_no.f a0 = some r) :
    Calls Tryd.prog 16 #[.int .i64 a0] w fun e w' => e = .returned (.int .i64 r) ∧ Drawn0 w w' := by
  have H : (some a0) = some r := h
  clear h
  obtain rfl := Option.some.inj H
  go_enter Tryd.func16, Tryd.ntmps16
  go_wp2
  go_ret
  exact ⟨by first | rfl | (simp; done) | (simp [*]; done), by repeat (first | exact Drawn0.refl _ | apply Drawn0.step)⟩

end Go.Proofs.YtlnaeppbhjmocaaDoor.Pno
