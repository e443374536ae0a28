/- From a call's contract to what a row asks of a law: it returns true and leaves all that was there as it was. -/
import Derived.Test.YteccbbockkkfbaaTab
import Derived.Below
namespace Go.Proofs.Yteccbbockkkfbaa
open Go Go.RowKit
/-- Nothing is told. -/
def nothing : Mem := fun _ => none
theorem top_of {P : Program} {f : FuncId} {args : List Value} {W : World} (h : Does P f args nothing (fun v _ => v = .bool true)) : Calls P f args.toArray W (fun e W' => e = .returned (.bool true) ∧ Below W.heap.size W W') := by
  refine (h.2 W (fun b B hb => by cases hb)).mono ?_
  rintro e W' ⟨v, M', rfl, _, hx, rfl⟩
  exact ⟨rfl, hx.os, hx.tape, hx.output, hx.size, fun k hk => hx.block k hk (fun ⟨B, hB, _⟩ => by cases hB)⟩
theorem top_read {P : Program} {f : FuncId} {args : List Value} {W : World} (M : Mem) (hM : Rep M W) (ho : ∀ b, ¬ owns M b) (h : Does P f args M (fun v _ => v = .bool true)) : Calls P f args.toArray W (fun e W' => e = .returned (.bool true) ∧ Below W.heap.size W W') := by
  refine (h.2 W hM).mono ?_
  rintro e W' ⟨v, M', rfl, _, hx, rfl⟩
  exact ⟨rfl, hx.os, hx.tape, hx.output, hx.size, fun k hk => hx.block k hk (ho k)⟩
/-- A number that an int64 holds. -/
def I64 (n : Int) : Prop := -9223372036854775808 ≤ n ∧ n ≤ 9223372036854775807
theorem i64_of {n : Int} (h : (Lit.int .i64 n).wf = true) : I64 n := by
  simp only [Lit.wf, Bool.and_eq_true, decide_eq_true_eq] at h
  have h1 : IntKind.i64.min = -9223372036854775808 := by decide
  have h2 : IntKind.i64.max = 9223372036854775807 := by decide
  rw [h1, h2] at h
  unfold I64
  omega
end Go.Proofs.Yteccbbockkkfbaa
