/- A number, made to be from 0 to below another one. -/
import Derived.Test.YtbcflfkajkmkdaaDoorTypes
namespace Go.Proofs.YtbcflfkajkmkdaaDoor.X
open Go Go.Proofs
set_option linter.unusedVariables false
set_option maxRecDepth 10000

def low (x m : Int) : Int := IntKind.u64.wrap x % m
theorem low_bd (x : Int) {m : Int} (h : 0 < m) : 0 ≤ low x m ∧ low x m < m := ⟨Int.emod_nonneg _ (by omega), Int.emod_lt_of_pos _ h⟩
theorem law_LowF (x m : Int) (hm : 0 < m ∧ m ≤ 9223372036854775807) (H : Heap) : Ret Tryd.prog 8 [.int .i64 x, .int .i64 m] H (fun v H' => H = H' ∧ v = .int .i64 (low x m)) := by
  refine ret_of Tryd.func8 rfl rfl rfl rfl ?_
  intro w0
  refine zrun ?_ ?_
  refine x_conv_int rfl rfl rfl trivial ?_
  refine zrun ?_ ?_
  refine x_conv_int rfl rfl rfl trivial ?_
  rw [wrap_u64 (a := m) (by omega) (by omega)]
  refine x_rem rfl rfl rfl (by omega) rfl trivial ?_
  refine x_conv_int rfl rfl rfl trivial ?_
  refine zrun ?_ ?_
  refine cw_ret1 rfl rfl ⟨rfl, ?_⟩
  have h1 : 0 ≤ IntKind.u64.wrap x := by rw [wrap_u64_mod]; omega
  have e : (IntKind.u64.wrap x).tmod m = low x m := Int.tmod_eq_emod_of_nonneg h1
  have := low_bd x hm.1
  rw [e, wrap_i64 (by omega) (by omega)]
end Go.Proofs.YtbcflfkajkmkdaaDoor.X
