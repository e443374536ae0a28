/- Contracts: first places of patterns, of the program. -/
import Derived.Test.YticejlplbibegaaC36
import Derived.Test.YticejlplbibegaaEB
import Derived.Test.YticejlplbibegaaC39
import Derived.Test.YticejlplbibegaaCA
import Derived.Test.YticejlplbibegaaC20
import Derived.Test.YticejlplbibegaaC31
import Derived.Test.YticejlplbibegaaM11
namespace Go.Proofs.Yticejlplbibegaa
open Go
set_option linter.unusedSimpArgs false
set_option linter.unusedVariables false

def cmpI (a b : Int) : Int := if a < b then -1 else if b < a then 1 else 0
def cmpL (a b : List Nat) : Int := if a = b then 0 else if lexLt a b then -1 else 1
theorem cmpL_same {pre a b : List Nat} : cmpL (pre ++ a) (pre ++ b) = cmpL a b := by
  unfold cmpL
  simp only [lex_app, List.append_right_inj]
theorem cmpL_head {x y : Nat} {a b : List Nat} (h : x ≠ y) : cmpL (x :: a) (y :: b) = cmpI x y := by
  have e : ¬ (x :: a = y :: b) := by intro e; injection e with e _; exact h e
  by_cases h1 : x < y
  · simp [cmpL, lexLt, cmpI, h, h1]
  · have h2 : y < x := by omega
    simp [cmpL, lexLt, cmpI, h, h1, h2]
theorem patternCode_does (w p : List UInt8) (M : Mem) (R : Value → Mem → Prop) (hw : w.length ≤ 1099511627776) (hp : p.length ≤ 1099511627776) (h : R (.int .i64 (if isWord w && isPat p then 0 else 1)) M) : Does Try.prog 52 [str w, str p] M R := by
  refine does_fn tab_ok Try.func52 rfl (by kernel_rfl) (by kernel_rfl) Try.ntmps52 Try.results52 rfl ?_
  simp (disch := omega)
  refine isWord_does w _ _ hw ?_
  cases h1 : isWord w
  · rw [h1] at h
    simp (disch := omega)
    exact ret_of h
  · rw [h1] at h
    simp (disch := omega)
    refine isPattern_does p _ _ hp ?_
    cases h2 : isPat p
    · rw [h2] at h
      simp (disch := omega)
      exact ret_of h
    · rw [h2] at h
      simp (disch := omega)
      exact ret_of h
def fillV (V : Vals) : Vals := V.filter fun u => !u.isEmpty
def plI (w p : List UInt8) : Int := if isWord w && isPat p then (match placeF w p with | some x => (x.1 : Int) | none => 0) else 0
def plL (w p : List UInt8) : Vals := if isWord w && isPat p then (match placeF w p with | some x => fillV x.2 | none => []) else []
def plC (w p : List UInt8) : Int := if isWord w && isPat p then (match placeF w p with | some _ => 0 | none => 4) else 1
def LstI (i : Int) (c : Int) (xs : List Value) (M : Mem) (R : Value → Mem → Prop) : Prop := ∀ v M', Own M v xs M' → R (.tuple #[.int .i64 i, v, .int .i64 c]) M'
theorem Sub.delN {M N : Mem} {b : Nat} (h : Sub M N) (hb : M b = none) : Sub M (N.del b) := by
  intro i B hi
  have hne : i ≠ b := by rintro rfl; rw [hb] at hi; cases hi
  simp only [Mem.del, if_neg hne]
  exact h _ _ hi
theorem del_put_same {M : Mem} {b : Nat} {X : Blk} (h : M b = some X) : (M.del b).put b X = M := by
  funext i
  by_cases e : i = b
  · subst e; rw [put_same, h]
  · rw [put_ne _ _ e]; simp [Mem.del, e]
end Go.Proofs.Yticejlplbibegaa
