/- Laws of one morphism whose results are lists of lists: MatrixOf. -/
import Derived.Test.YtncpooklejiphaaC22
import Derived.Test.YtncpooklejiphaaC23
import Derived.Test.YtncpooklejiphaaL3
namespace Go.Proofs.Ytncpooklejiphaa
open Go
set_option linter.unusedSimpArgs false
set_option linter.unusedVariables false

theorem matM_row {ws : List (List UInt8)} (hm : isMor ws = true) : ∀ r ∈ matM ws, r.length ≤ 1099511627776 := by
  intro r hr
  obtain ⟨w, hw, rfl⟩ := List.mem_map.1 hr
  have := mor_len hm
  rw [rowM_length (by omega)]
  omega
theorem sizes_le {rows : List (List Int)} {n : Nat} (h : ∀ r ∈ rows, r.length ≤ n) : sizes rows ≤ rows.length * n := by
  unfold sizes
  induction rows with
  | nil => simp
  | cons r rows ih =>
    have h1 := h r (List.mem_cons_self ..)
    have h2 := ih fun x hx => h x (List.mem_cons_of_mem _ hx)
    rw [List.map_cons, List.sum_cons, List.length_cons, Nat.succ_mul]
    omega
theorem law_MatrixOf (v : Value) (ws : List (List UInt8)) (M : Mem) (R : Value → Mem → Prop) (hv : Rd M v (strs ws)) (hn : ws.length ≤ 9223372036854775807) (hw : ∀ w ∈ ws, w.length ≤ 9223372036854775807) (h : ∀ M', Sub M M' → R (.bool true) M') : Does Try.prog 4 [.agg #[v]] M R := by
  refine does_fn tab_ok Try.func4 rfl (by kernel_rfl) (by kernel_rfl) Try.ntmps4 Try.results4 rfl ?_
  obtain ⟨a, c, rfl, ha⟩ := hv.opened
  rw [strs_length] at ha hv ⊢
  simp (disch := omega)
  intro b1 hb1
  have hs1 : Sub M (M.put b1 (.cells true [.slice a ws.length c] 1)) := (Sub.refl M).put hb1 _
  have k1 : (M.put b1 (.cells true [.slice a ws.length c] 1)) b1 = some (.cells true [.slice a ws.length c] 1) := put_same _ _ _
  have hv1 := hv.put hb1 (.cells true [.slice a ws.length c] 1)
  generalize M.put b1 (.cells true [.slice a ws.length c] 1) = N1 at *
  simp (disch := omega) [sub_of k1]
  refine szMorphism_does _ ws 1048576 _ _ hv1 hn hw (by omega) ?_ ?_
  · intro hle
    obtain ⟨p, hp⟩ : ∃ p, p = 1048576 - (ws.length + sumL ws) := ⟨_, rfl⟩
    rw [← hp]
    have hsm : ws.length ≤ 1048576 := by omega
    have hfine : Fine ws := fun w hw => by have := sumL_mem hw; omega
    have e1 := fun v M R h1 => spec_MatrixOf v ws M R h1 hfine (by omega)
    have e2 := fun v M R h1 => impl_MatrixOf v ws M R h1 hfine (by omega)
    obtain ⟨rows, hrows⟩ : ∃ rows, rows = if isMor ws then matM ws else [] := ⟨_, rfl⟩
    have hlen : rows.length ≤ 5 ∧ ∀ r ∈ rows, r.length ≤ 5 := by
      rw [hrows]
      cases hm : isMor ws
      · simp
      · have h15 := mor_len hm
        rw [if_pos rfl]
        refine ⟨by rw [matM_length]; omega, fun r hr => ?_⟩
        obtain ⟨w, hw, rfl⟩ := List.mem_map.1 hr
        rw [rowM_length (by omega)]
        omega
    have hsz := sizes_le hlen.2
    have hsz2 : rows.length * 5 ≤ 25 := Nat.mul_le_mul_right 5 hlen.1
    have hr' : ∀ r ∈ rows, r.length ≤ 1099511627776 := fun r hr => Nat.le_trans (hlen.2 r hr) (by decide)
    rw [← hrows] at e1 e2
    generalize morC ws = code at *
    simp (disch := omega) [sub_of k1]
    refine toMorphism_does _ ws _ _ hv1 hsm ?_
    intro v2 N2 o2
    have k2 := o2.sub _ _ k1
    simp (disch := omega)
    refine e1 v2 _ _ o2.rd ?_
    intro g1 rs1 A1 B1 r1 p1
    have d1 := rdSS_of r1 p1
    have t1 := o2.sub.trans (r1.sub.trans p1.sub)
    have k2' := t1 _ _ k1
    simp (disch := omega) [sub_of k2']
    refine toMorphism_does _ ws _ _ (hv1.sub t1) hsm ?_
    intro v3 N3 o3
    have t3 := t1.trans o3.sub
    have k3 := t3 _ _ k1
    obtain ⟨a3, c3, rfl, _⟩ := o3.rd.opened
    rw [strs_length] at o3 ⊢
    simp (disch := omega)
    intro b5 hb5
    have hne : b1 ≠ b5 := by rintro rfl; rw [k3] at hb5; cases hb5
    have s5 := (Sub.refl N3).put hb5 (.cells true [.slice a3 ws.length c3] 1)
    have k5 : (N3.put b5 (.cells true [.slice a3 ws.length c3] 1)) b5 = some (.cells true [.slice a3 ws.length c3] 1) := put_same _ _ _
    have hb5B : B1 b5 = none := none_of o3.sub hb5
    have o3' := o3.push hb5 (.cells true [.slice a3 ws.length c3] 1)
    have k5B : (B1.put b5 (.cells true [.slice a3 ws.length c3] 1)) b5 = some (.cells true [.slice a3 ws.length c3] 1) := put_same _ _ _
    have sB : Sub B1 (B1.put b5 (.cells true [.slice a3 ws.length c3] 1)) := (Sub.refl B1).put hb5B _
    simp (disch := omega)
    generalize B1.put b5 (.cells true [.slice a3 ws.length c3] 1) = N0 at *
    generalize N3.put b5 (.cells true [.slice a3 ws.length c3] 1) = N4 at *
    refine e2 _ _ _ o3'.rd ?_
    intro g2 rs2 A2 B2 r2 p2
    have t4 := s5.trans (r2.sub.trans p2.sub)
    have t4' := r2.sub.trans p2.sub
    have k4 := (t3.trans t4) _ _ k1
    have k6 := t4' _ _ k5
    simp (disch := omega)
    refine eqInt64SS_does g2 g1 rows rows _ _ (rdSS_of r2 p2) (d1.sub (o3.sub.trans t4)) (by omega) (by omega) hr' hr' ?_
    simp (disch := omega)
    refine draws_to 2 1 tab_ok (by kernel_rfl) (by kernel_rfl) (by rfl) ?_
    simp (disch := omega) [sub_of k6, sub_of k4]
    refine toMorphism_does _ ws _ _ (hv1.sub (t3.trans t4)) hsm ?_
    intro v6 N6 o6
    simp (disch := omega)
    refine ⟨o6.sub, ?_⟩
    refine eqMorphism_does _ _ ws ws _ _ (o3'.rd.sub (t4'.trans o6.sub)) o6.rd (by omega) (by omega) ?_
    obtain ⟨A', A2', r5, p5, sA⟩ := o6.overS r2 p2
    have k7 := o6.sub _ _ k6
    have sN := r5.sub.trans p5.sub
    simp (disch := omega) [sub_of k7]
    refine markMorphism_on _ (strs ws) 1 N0 N4 _ _ o3' (sA.trans sN) (by rw [strs_length]; omega) (by omega) (by omega) ?_
    intro f tf
    have r6 := r5.turn tf sA
    have p6 := p5.turn tf (sA.trans r5.sub)
    have s6 := r6.sub.trans p6.sub
    have sN0 := tf.keep sA
    have dB := d1.sub (sB.trans sN0)
    have kk1 := (t1.trans (sB.trans sN0)) _ _ k1
    rw [strs_length]
    generalize f A' = F0 at *
    generalize f A2' = F2 at *
    generalize f N6 = F6 at *
    simp (disch := omega)
    refine eqInt64SS_does g2 g1 rows rows _ _ (rdSS_of r6 p6) (dB.sub s6) (by omega) (by omega) hr' hr' ?_
    simp (disch := omega)
    refine markInt64SS_does g2 _ _ _ _ _ _ _ r6 p6 (by omega) (by omega) (by omega) (by omega) ?_
    intro X Y r7 p7
    have s7 := r7.sub.trans p7.sub
    have d7 := rdSS_of r7 p7
    have k8 := s7 _ _ kk1
    simp (disch := omega)
    refine heldInt64SS_does g2 rows _ _ _ d7 (by omega) (by omega) (by omega) (by omega) ?_
    simp (disch := omega) [sub_of k8]
    refine toMorphism_does _ ws _ _ (hv1.sub (t1.trans (sB.trans (sN0.trans s7)))) hsm ?_
    intro v8 N8 o8
    simp (disch := omega)
    refine e2 _ _ _ o8.rd ?_
    intro g9 rs9 A9 B9 r9 p9
    have s9 := o8.sub.trans (r9.sub.trans p9.sub)
    simp (disch := omega)
    refine eqInt64SS_does g9 g1 rows rows _ _ (rdSS_of r9 p9) (dB.sub (s7.trans s9)) (by omega) (by omega) hr' hr' ?_
    simp (disch := omega)
    refine heldInt64SS_does g2 rows _ _ _ (d7.sub s9) (by omega) (by omega) (by omega) (by omega) ?_
    simp (disch := omega)
    exact ret_of (h _ (((hs1.trans t1).trans (sB.trans sN0)).trans (s7.trans s9)))
  · intro hlt
    simp (disch := omega)
    exact ret_sub hs1 (h _ (Sub.refl _))
end Go.Proofs.Ytncpooklejiphaa
