/- math.Inf(-1), NaN, IsInf of an infinity; no condition. -/
import Derived.Test.YthnmjkjllhlcjaaDoorNamesP2
namespace Go.Proofs.YthnmjkjllhlcjaaDoor
open Go Go.RowKit Go.Steady Go.Tri
set_option maxRecDepth 100000

theorem inf_neg (w : World) :
    Calls Tryd.prog 38 #[.int .i64 (-1)] w fun ed w' => ed = .returned (.float .f64 18442240474082181120) ∧ w' = w := by
  have hf := run_frombits
  have hf1 : ∀ w, (callFunc 104 #[.int .u64 18442240474082181120]).run Tryd.prog w = .ok (.value (.float .f64 18442240474082181120)) w := fun w => run_frombits 18442240474082181120 w
  go_enter Tryd.func38, Tryd.ntmps38
  go_wp2
  go_ret
  exact ⟨rfl, rfl⟩
theorem nan_any (w : World) :
    Calls Tryd.prog 39 #[] w fun ed w' => ed = .returned (.float .f64 9221120237041090561) ∧ w' = w := by
  have hf := run_frombits
  have hf1 : ∀ w, (callFunc 104 #[.int .u64 9221120237041090561]).run Tryd.prog w = .ok (.value (.float .f64 9221120237041090561)) w := fun w => run_frombits 9221120237041090561 w
  go_enter Tryd.func39, Tryd.ntmps39
  go_wp2
  go_ret
  exact ⟨rfl, rfl⟩
theorem order_inf_max : (FloatKind.f64.format.order 9218868437227405312 9218868437227405311 == some .gt) = true := by
  have h2 : FloatKind.f64.format.order 9218868437227405312 9218868437227405311 = some (compare (sr 9218868437227405312) (sr 9218868437227405311)) := order_sr ⟨by omega, by omega⟩ ⟨by omega, by omega⟩
  rw [h2, sr_nat (by omega), sr_nat (by omega)]
  rw [Int.compare_eq_gt.2 (by omega)]; rfl
theorem isinf_pos (w : World) :
    Calls Tryd.prog 40 #[.float .f64 9218868437227405312, .int .i64 1] w fun ed w' => ed = .returned (.bool true) ∧ w' = w := by
  have h1 := order_inf_max
  go_enter Tryd.func40, Tryd.ntmps40
  go_wp2
  go_ret
  exact ⟨rfl, rfl⟩
theorem isinf_neg (w : World) :
    Calls Tryd.prog 40 #[.float .f64 18442240474082181120, .int .i64 (-1)] w fun ed w' => ed = .returned (.bool true) ∧ w' = w := by
  have h1 := order_inf_max
  have hng : ∀ w, (Op.unary UnOp.neg (.float .f64 18442240474082181120)).run Tryd.prog w = .ok (.float .f64 9218868437227405312) w := fun w => rfl
  go_enter Tryd.func40, Tryd.ntmps40
  go_wp2
  go_ret
  exact ⟨rfl, rfl⟩
end Go.Proofs.YthnmjkjllhlcjaaDoor
