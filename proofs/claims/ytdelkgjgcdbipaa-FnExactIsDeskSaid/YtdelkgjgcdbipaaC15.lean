/- Contracts: desks: their sizes, their copies, whether they are desks. -/
import Derived.Test.YtdelkgjgcdbipaaC13
namespace Go.Proofs.Ytdelkgjgcdbipaa
open Go
set_option linter.unusedSimpArgs false
set_option linter.unusedVariables false

def isV (u : UInt8) : Bool := decide (65 ≤ u.toNat) && decide (u.toNat < 68)
def isPat (l : List UInt8) : Bool := decide (1 ≤ l.length ∧ l.length ≤ 8) && l.all isV
def isDesk (w p : List UInt8) (ws : List (List UInt8)) : Bool := isWord w && (isPat p && isMor ws)
theorem l10Is_does (l : List UInt8) (M : Mem) (R : Value → Mem → Prop) (hl : l.length ≤ 1099511627776) (h : R (.bool (isPat l)) M) : Does Try.prog 51 [str l] M R := by
  refine does_fn tab_ok Try.func51 rfl (by kernel_rfl) (by kernel_rfl) Try.ntmps51 Try.results51 rfl ?_
  simp (disch := omega)
  refine loop_to tab_ok [2, 3, 4, 5, 6, 7, 8, 9, 10, 11, 12, 13, 14, 15, 16, 17, 18, 19] (fun i : Nat => [(3, .int .i64 i)]) (fun i M' => M' = M ∧ i ≤ l.length ∧ ∀ u ∈ l.take i, isV u = true) (fun i => l.length - i) 0 (by kernel_rfl) (by simp (disch := omega)) ⟨rfl, by omega, by simp⟩ ?_
  rintro i M' g ⟨rfl, hi, hp⟩
  by_cases hlt : i < l.length
  · have hx : l[i]? = some l[i] := List.getElem?_eq_getElem hlt
    have hu := l[i].toNat_lt
    have bad : isV l[i] = false → isPat l = false := by
      intro hb
      have : l.all isV = false := List.all_eq_false.2 ⟨_, List.getElem_mem hlt, by rw [hb]; simp⟩
      unfold isPat; rw [this, Bool.and_false]
    by_cases h1 : (l[i].toNat : Int) < 65
    · have hb : isV l[i] = false := by unfold isV; rw [decide_eq_false (by omega : ¬ 65 ≤ l[i].toNat)]; rfl
      rw [bad hb] at h
      simp (disch := omega) [hx, h1]
      exact ret_of h
    · by_cases h2 : 67 < (l[i].toNat : Int)
      · have hb : isV l[i] = false := by unfold isV; rw [decide_eq_false (by omega : ¬ l[i].toNat < 68), Bool.and_false]
        rw [bad hb] at h
        simp (disch := omega) [hx, h1, h2]
        exact ret_of h
      · have hb : isV l[i] = true := by unfold isV; rw [decide_eq_true (by omega : 65 ≤ l[i].toNat), decide_eq_true (by omega : l[i].toNat < 68)]; rfl
        simp (disch := omega) [hx, h1, h2]
        refine Rnd.mk' (i + 1) (by omega) (by (repeat (first | exact km | refine kp rfl ?_ | refine km' rfl ?_))) (by simp (disch := omega)) ⟨rfl, by omega, ?_⟩
        rw [take_snoc l hlt]
        intro u hu
        rcases List.mem_append.1 hu with hu | hu
        · exact hp u hu
        · rw [List.mem_singleton.1 hu]; exact hb
  · have hi' : i = l.length := by omega
    subst hi'
    rw [List.take_length] at hp
    have e : isPat l = decide (1 ≤ l.length ∧ l.length ≤ 8) := by unfold isPat; rw [List.all_eq_true.2 hp, Bool.and_true]
    rw [e] at h
    by_cases h0 : 0 < l.length
    · by_cases h8 : (l.length : Int) ≤ 8
      · rw [decide_eq_true (by omega : 1 ≤ l.length ∧ l.length ≤ 8)] at h
        simp (disch := omega) [h0, h8]
        exact ret_of h
      · rw [decide_eq_false (by omega : ¬ (1 ≤ l.length ∧ l.length ≤ 8))] at h
        simp (disch := omega) [h0, h8]
        exact ret_of h
    · rw [decide_eq_false (by omega : ¬ (1 ≤ l.length ∧ l.length ≤ 8))] at h
      simp (disch := omega) [h0]
      exact ret_of h
theorem isPattern1_tells (l : List UInt8) : Tells Try.prog (.func (.func 96) #[] #[]) (bytesV l) (onB isV) (fun _ => True) := by
  intro x hx M R _ h
  obtain ⟨u, _, rfl⟩ := mem_bytes hx
  rw [onB_byte] at h
  simp (disch := omega)
  refine does_fn tab_ok Try.func96 rfl (by kernel_rfl) (by kernel_rfl) Try.ntmps96 Try.results96 rfl ?_
  by_cases h1 : 65 ≤ (u.toNat : Int)
  · have e : isV u = decide ((u.toNat : Int) < 68) := by unfold isV; rw [decide_eq_true (by omega : 65 ≤ u.toNat)]; simp only [Bool.true_and, decide_eq_decide]; omega
    rw [e] at h
    simp (disch := omega) [h1]
    exact ret_of h
  · have e : isV u = false := by unfold isV; rw [decide_eq_false (by omega : ¬ 65 ≤ u.toNat)]; rfl
    rw [e] at h
    simp (disch := omega) [h1]
    exact ret_of h
theorem isPattern_does (l : List UInt8) (M : Mem) (R : Value → Mem → Prop) (hl : l.length ≤ 1099511627776) (h : R (.bool (isPat l)) M) : Does Try.prog 54 [str l] M R := by
  refine does_fn tab_ok Try.func54 rfl (by kernel_rfl) (by kernel_rfl) Try.ntmps54 Try.results54 rfl ?_
  simp (disch := omega)
  refine size_does l _ _ hl ?_
  simp (disch := omega)
  refine within_does _ _ _ _ _ ?_
  by_cases h1 : 1 ≤ l.length ∧ l.length ≤ 8
  · have e : isPat l = l.all isV := by unfold isPat; rw [decide_eq_true h1]; rfl
    rw [e] at h
    have h1' : decide (1 ≤ (l.length : Int) ∧ (l.length : Int) ≤ 8) = true := decide_eq_true (by omega)
    rw [h1']
    simp (disch := omega)
    intro b c hb hc
    simp (disch := omega)
    refine areAllB_does _ _ (bytesV l) (onB isV) (fun _ => True) _ _ (Rd.new (bytesV_length l) (by simp (disch := omega) at hc; omega)) trivial stab_true (isPattern1_tells l) rfl (by rw [bytesV_length]; omega) ?_
    rw [all_bytes]
    simp (disch := omega)
    exact ret_sub ((Sub.refl M).put hb _) h
  · have e : isPat l = false := by unfold isPat; rw [decide_eq_false h1]; rfl
    rw [e] at h
    have h1' : decide (1 ≤ (l.length : Int) ∧ (l.length : Int) ≤ 8) = false := decide_eq_false (by omega)
    rw [h1']
    simp (disch := omega)
    exact ret_of h
theorem spec_IsDesk (w p : List UInt8) (v : Value) (ws : List (List UInt8)) (M : Mem) (R : Value → Mem → Prop) (hv : Rd M v (strs ws)) (hw : w.length ≤ 1099511627776) (hp : p.length ≤ 1099511627776) (hf : Fine ws) (hn : ws.length ≤ 1099511627776) (h : R (.bool (isDesk w p ws)) M) : Does Try.prog 16 [deskV w p v] M R := by
  unfold deskV
  refine does_fn tab_ok Try.func16 rfl (by kernel_rfl) (by kernel_rfl) Try.ntmps16 Try.results16 rfl ?_
  obtain ⟨a, c, rfl, ha⟩ := hv.opened
  rw [strs_length] at ha hv ⊢
  simp (disch := omega)
  intro b1 hb1
  have hs1 : Sub M (M.put b1 (.cells true [str w, str p, .slice a ws.length c] 3)) := (Sub.refl M).put hb1 _
  have hv1 := hv.put hb1 (.cells true [str w, str p, .slice a ws.length c] 3)
  unfold isDesk at h
  simp (disch := omega)
  refine l01Is_does w _ _ hw ?_
  cases e1 : isWord w
  · rw [e1, Bool.false_and] at h
    simp (disch := omega)
    exact ret_sub hs1 h
  · rw [e1, Bool.true_and] at h
    simp (disch := omega)
    refine l10Is_does p _ _ hp ?_
    cases e2 : isPat p
    · rw [e2, Bool.false_and] at h
      simp (disch := omega)
      exact ret_sub hs1 h
    · rw [e2, Bool.true_and] at h
      simp (disch := omega)
      refine l06Is_does _ ws _ _ hv1 hf hn ?_
      simp (disch := omega)
      exact ret_sub hs1 h
theorem impl_IsDesk (w p : List UInt8) (v : Value) (ws : List (List UInt8)) (M : Mem) (R : Value → Mem → Prop) (hv : Rd M v (strs ws)) (hw : w.length ≤ 1099511627776) (hp : p.length ≤ 1099511627776) (hf : Fine ws) (hn : ws.length ≤ 1099511627776) (h : R (.bool (isDesk w p ws)) M) : Does Try.prog 18 [deskV w p v] M R := by
  unfold deskV
  refine does_fn tab_ok Try.func18 rfl (by kernel_rfl) (by kernel_rfl) Try.ntmps18 Try.results18 rfl ?_
  obtain ⟨a, c, rfl, ha⟩ := hv.opened
  rw [strs_length] at ha hv ⊢
  simp (disch := omega)
  intro b1 hb1
  have hs1 : Sub M (M.put b1 (.cells true [str w, str p, .slice a ws.length c] 3)) := (Sub.refl M).put hb1 _
  have hv1 := hv.put hb1 (.cells true [str w, str p, .slice a ws.length c] 3)
  unfold isDesk at h
  simp (disch := omega)
  refine isWord_does w _ _ hw ?_
  cases e1 : isWord w
  · rw [e1, Bool.false_and] at h
    simp (disch := omega)
    exact ret_sub hs1 h
  · rw [e1, Bool.true_and] at h
    simp (disch := omega)
    refine isPattern_does p _ _ hp ?_
    cases e2 : isPat p
    · rw [e2, Bool.false_and] at h
      simp (disch := omega)
      exact ret_sub hs1 h
    · rw [e2, Bool.true_and] at h
      simp (disch := omega)
      refine isMorphism_does _ ws _ _ hv1 hf hn ?_
      simp (disch := omega)
      exact ret_sub hs1 h
theorem szDesk_does (w p : List UInt8) (v : Value) (ws : List (List UInt8)) (M : Mem) (R : Value → Mem → Prop) (hv : Rd M v (strs ws)) (hw0 : w.length ≤ 9223372036854775807) (hp0 : p.length ≤ 9223372036854775807) (hn : ws.length ≤ 9223372036854775807) (hw : ∀ w ∈ ws, w.length ≤ 9223372036854775807)
    (h1 : w.length + p.length + (ws.length + sumL ws) ≤ 1048576 → ∀ k : Nat, R (.int .i64 k) M) (h0 : R (.int .i64 (-1)) M) : Does Try.prog 15 [deskV w p v, .int .i64 1048576] M R := by
  unfold deskV
  refine does_fn tab_ok Try.func15 rfl (by kernel_rfl) (by kernel_rfl) Try.ntmps15 Try.results15 rfl ?_
  obtain ⟨a, c, rfl, ha⟩ := hv.opened
  rw [strs_length] at ha hv ⊢
  simp (disch := omega)
  intro b1 hb1
  have hs1 : Sub M (M.put b1 (.cells true [str w, str p, .slice a ws.length c] 3)) := (Sub.refl M).put hb1 _
  have hv1 := hv.put hb1 (.cells true [str w, str p, .slice a ws.length c] 3)
  by_cases hc1 : (1048576 : Int) - w.length < 0
  · simp (disch := omega) [hc1]
    exact ret_sub hs1 h0
  by_cases hc2 : (1048576 : Int) - w.length - p.length < 0
  · simp (disch := omega) [hc1, hc2]
    exact ret_sub hs1 h0
  obtain ⟨q, hq⟩ : ∃ q : Nat, (1048576 : Int) - w.length - p.length = q := ⟨1048576 - w.length - p.length, by omega⟩
  simp (disch := omega) [hc1, hc2, hq]
  refine szMorphism_does _ ws q _ _ hv1 hn hw (by omega) ?_ ?_
  · intro hle
    obtain ⟨k, hk⟩ : ∃ k, k = q - (ws.length + sumL ws) := ⟨_, rfl⟩
    rw [← hk]
    have h1 := h1 (by omega) k
    simp (disch := omega)
    exact ret_sub hs1 h1
  · intro hlt
    simp (disch := omega)
    exact ret_sub hs1 h0
theorem toDesk_does (w p : List UInt8) (v : Value) (ws : List (List UInt8)) (M : Mem) (R : Value → Mem → Prop) (hv : Rd M v (strs ws)) (hn : ws.length ≤ 1048576) (h : ∀ v' M', Own M v' (strs ws) M' → R (deskV w p v') M') : Does Try.prog 17 [deskV w p v] M R := by
  unfold deskV
  refine does_fn tab_ok Try.func17 rfl (by kernel_rfl) (by kernel_rfl) Try.ntmps17 Try.results17 rfl ?_
  obtain ⟨a, c, rfl, ha⟩ := hv.opened
  rw [strs_length] at ha hv ⊢
  simp (disch := omega)
  intro b1 hb1
  simp (disch := omega)
  intro b2 hb2
  simp (disch := omega)
  intro b3 hb3
  have n2 := hb2
  have n3 := hb3
  rw [put_none] at n2
  rw [put_none, put_none] at n3
  simp (disch := omega) [n2.1, Ne.symm n2.1, n3.1, Ne.symm n3.1, n3.2.1, Ne.symm n3.2.1]
  refine toMorphism_does _ ws _ _ (((hv.put hb1 _).put hb2 _).put hb3 _) hn ?_
  intro v' M' o
  obtain ⟨a', c', rfl, _⟩ := o.rd.opened
  rw [strs_length] at o ⊢
  have k3 := o.sub _ _ (put_same _ _ _)
  have k2 := o.sub b2 _ ((put_ne _ _ (Ne.symm n3.1)).trans (put_same _ _ _))
  simp (disch := omega) [k3]
  simp only [set_is]
  simp (disch := omega) [k2, n3.1, Ne.symm n3.1]
  simp only [set_is]
  simp (disch := omega)
  have o2 := o.other (b := b2) ((put_ne _ _ (Ne.symm n3.1)).trans (put_same _ _ _)) (.cells true [str w, str p, .slice a' ws.length c'] 3)
  have o3 := o2.other (b := b3) ((put_ne _ _ n3.1).trans (put_same _ _ _)) (.cells true [str w, str p, .slice a' ws.length c'] 3)
  obtain ⟨M'', o4, hs4⟩ := o3.base ((((((Sub.refl M).put hb1 _).put n2.2 _).put n3.2.2 _).put n2.2 _).put n3.2.2 _)
  exact ret_sub hs4 (h _ _ o4)
end Go.Proofs.Ytdelkgjgcdbipaa
