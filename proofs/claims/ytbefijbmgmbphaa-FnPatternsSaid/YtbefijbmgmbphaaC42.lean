/- Contracts: first places of patterns, of the reference, and the law. -/
import Derived.Test.YtbefijbmgmbphaaC41
namespace Go.Proofs.Ytbefijbmgmbphaa
open Go
set_option linter.unusedSimpArgs false
set_option linter.unusedVariables false

theorem gvF_snoc {w : List UInt8} {ls : List Nat} {p : List UInt8} {V : Vals} {t i : Nat} (hi : i < p.length) : gvF w ls (p.take (i + 1)) V t = gvS w ls (gvF w ls (p.take i) V t) p[i] := by
  unfold gvF
  rw [take_snoc p hi, List.foldl_append]; rfl
theorem gvF_dead {w : List UInt8} {ls : List Nat} {p : List UInt8} {V : Vals} {t i : Nat} (h : gvF w ls (p.take i) V t = none) : gvF w ls p V t = none := by
  have e : gvF w ls p V t = (p.drop i).foldl (gvS w ls) (gvF w ls (p.take i) V t) := by
    unfold gvF
    rw [← List.foldl_append, List.take_append_drop]
  rw [e, h, gv_none]
theorem fill_snoc {V : Vals} {j : Nat} (hj : j < V.length) : fillV (V.take (j + 1)) = fillV (V.take j) ++ if V[j].isEmpty then [] else [V[j]] := by
  unfold fillV
  rw [take_snoc V hj, List.filter_append]
  cases h : V[j].isEmpty <;> simp [h]
theorem getD_at {V : Vals} {j : Nat} (hj : j < V.length) : V.getD j [] = V[j] := by
  rw [List.getD_eq_getElem?_getD, List.getElem?_eq_getElem hj]; rfl
theorem natsV_at {ls : List Nat} {k : Nat} (hk : k < ls.length) : (natsV ls)[k]? = some (.int .i64 (ls.getD k 0 : Nat)) := by
  rw [natsV_get, List.getElem?_eq_getElem hk, List.getD_eq_getElem?_getD, List.getElem?_eq_getElem hk]; rfl
def Low (ls : List Nat) : Prop := ∀ k, ls.getD k 0 ≤ 60
theorem l10Code_does (w p : List UInt8) (M : Mem) (R : Value → Mem → Prop) (hw : w.length ≤ 1099511627776) (hp : p.length ≤ 1099511627776) (h : R (.int .i64 (if isWord w && isPat p then 0 else 1)) M) : Does Try.prog 84 [str w, str p] M R := by
  refine does_fn tab_ok Try.func84 rfl (by kernel_rfl) (by kernel_rfl) Try.ntmps84 Try.results84 rfl ?_
  simp (disch := omega)
  refine l01Is_does w _ _ hw ?_
  cases h1 : isWord w
  · rw [h1] at h
    simp (disch := omega)
    exact ret_of h
  · rw [h1] at h
    simp (disch := omega)
    refine l10Is_does p _ _ hp ?_
    cases h2 : isPat p
    · rw [h2] at h
      simp (disch := omega)
      exact ret_of h
    · rw [h2] at h
      simp (disch := omega)
      exact ret_of h
theorem l10Given_does (w p : List UInt8) (v : Value) (ls : List Nat) (M : Mem) (R : Value → Mem → Prop) (hl : w.length ≤ 60) (hpv : p.all isV = true) (hp8 : p.length ≤ 8) (hv : Rd M v (natsV ls)) (h3 : ls.length = 3) (hlow : Low ls)
    (h1 : ∀ V t, gvF w ls p V0 0 = some (V, t) → ∀ v' M', Own M v' (strs (fillV V)) M' → R (.tuple #[v', .bool (decide (t = w.length))]) M') (h0 : gvF w ls p V0 0 = none → ∀ M', Sub M M' → R (.tuple #[.slice none 0 0, .bool false]) M') :
    Does Try.prog 164 [str w, str p, v] M R := by
  obtain ⟨a, c, rfl, ha⟩ := hv.opened
  rw [natsV_length, h3] at ha ⊢
  rcases ha with hz | ⟨b, o, rfl, ha⟩
  · omega
  refine does_fn tab_ok Try.func164 rfl (by kernel_rfl) (by kernel_rfl) Try.ntmps164 Try.results164 rfl ?_
  simp (disch := omega)
  intro b8 hb8
  simp (disch := omega)
  have hne : ∀ k, k < 3 → ∀ X, (M.put b8 X).get? b (o + k) = some (.int .i64 (ls.getD k 0 : Nat)) := by
    intro k hk X
    have hg := ha k hk
    rw [natsV_at (by omega)] at hg
    exact get_keep hg ((Sub.refl M).put hb8 X)
  refine loop_to tab_ok [6, 7, 9, 10, 11, 12, 16, 17, 18, 19, 20, 21, 22, 23, 24, 25, 26, 27, 28, 29, 30, 31, 32, 33, 34, 35, 36, 37, 38, 39, 40, 41, 42, 43, 44, 45, 46, 47, 48, 49, 50, 51, 52, 53, 54, 55, 56, 57, 58, 59, 60, 61, 62, 63, 64, 65, 66] (fun x : Nat × Vals × Nat => [(10, .int .i64 x.1), (9, .int .i64 x.2.2)]) (fun x M' => x.1 ≤ p.length ∧ M' = M.put b8 (.cells true (strs x.2.1) 3) ∧ Small3 x.2.1 ∧ x.2.2 ≤ w.length ∧ gvF w ls (p.take x.1) V0 0 = some x.2) (fun x => p.length - x.1) (0, V0, 0) (by kernel_rfl) (by simp (disch := omega)) ⟨by simp, rfl, small0, by simp, rfl⟩ ?_
  rintro ⟨i, V, t⟩ M' g ⟨hi, rfl, hV, ht, hgv⟩
  simp only at hi hV ht hgv
  by_cases hlt : i < p.length
  · have hx : p[i]? = some p[i] := List.getElem?_eq_getElem hlt
    have hc := isV_range (List.all_eq_true.1 hpv _ (List.getElem_mem hlt))
    have hsn := gvF_snoc (w := w) (ls := ls) (V := V0) (t := 0) hlt
    rw [hgv, gvS_some] at hsn
    generalize p[i] = c at *
    have hk : ((c.toNat : Int) - 65).toNat = vIdx c := by unfold vIdx; omega
    have hk3 : vIdx c < 3 := by unfold vIdx; omega
    have hgl := hne (vIdx c) hk3
    have hlo := hlow (vIdx c)
    have hgv3 := val_get hV.1 hk3
    have hsm := small_get hV (vIdx c)
    have hkb := hV.1
    have k8 : (M.put b8 (.cells true (strs V) 3)) b8 = some (.cells true (strs V) 3) := put_same _ _ _
    generalize vIdx c = k at *
    generalize ls.getD k 0 = l at *
    obtain ⟨own, hown⟩ : ∃ own, own = V.getD k [] := ⟨_, rfl⟩
    rw [← hown] at hgv3 hsm hsn
    by_cases hle : t + l ≤ w.length
    · have hle' : ¬ (w.length : Int) < (t : Int) + l := by omega
      have hseg : List.drop t (List.take ((t : Int) + l).toNat w) = (w.drop t).take l := by
        rw [show ((t : Int) + l).toNat = t + l by omega, List.drop_take, show t + l - t = l by omega]
      have hul : ((w.drop t).take l).length ≤ 60 := by rw [List.length_take, List.length_drop]; omega
      have hV' : Small3 (V.set k ((w.drop t).take l)) := small_set hV hul
      generalize (w.drop t).take l = u at *
      by_cases h00 : own = []
      · rw [if_pos ⟨hle, .inl h00⟩] at hsn
        have he : own.isEmpty = true := by rw [h00]; rfl
        simp (disch := omega) [hx, at_u8 hx, hk, hgl _, hle', hseg, get_of k8, hgv3, at_in hgv3, he]
        refine Rnd.mk' (i + 1, V.set k u, t + l) (by simp only; omega) (by (repeat (first | exact km | refine kp rfl ?_ | refine km' rfl ?_))) (by simp (disch := omega)) ⟨by simp only; omega, ?_, hV', by simp only; omega, hsn⟩
        simp only [set_is, put_put, strs_set]
      · have he : own.isEmpty = false := by cases own with
          | nil => exact absurd rfl h00
          | cons a l => rfl
        by_cases hou : own = u
        · rw [if_pos ⟨hle, .inr hou⟩] at hsn
          have hbe : (own == u) = true := by rw [hou]; exact beq_self_eq_true _
          simp (disch := omega) [hx, at_u8 hx, hk, hgl _, hle', hseg, get_of k8, hgv3, at_in hgv3, he, hbe]
          refine Rnd.mk' (i + 1, V.set k u, t + l) (by simp only; omega) (by (repeat (first | exact km | refine kp rfl ?_ | refine km' rfl ?_))) (by simp (disch := omega)) ⟨by simp only; omega, ?_, hV', by simp only; omega, hsn⟩
          simp only [set_is, put_put, strs_set]
        · rw [if_neg (by rintro ⟨_, hh | hh⟩; exact h00 hh; exact hou hh)] at hsn
          have hbe : (own == u) = false := beq_eq_false_iff_ne.2 hou
          simp (disch := omega) [hx, at_u8 hx, hk, hgl _, hle', hseg, get_of k8, hgv3, at_in hgv3, he, hbe]
          exact ret_sub ((Sub.refl M).put hb8 _) (h0 (gvF_dead hsn) _ (Sub.refl _))
    · have hle' : (w.length : Int) < (t : Int) + l := by omega
      rw [if_neg (by rintro ⟨hh, _⟩; exact hle hh)] at hsn
      simp (disch := omega) [hx, at_u8 hx, hk, hgl _, hle', get_of k8]
      exact ret_sub ((Sub.refl M).put hb8 _) (h0 (gvF_dead hsn) _ (Sub.refl _))
  · have hi' : i = p.length := by omega
    subst hi'
    rw [List.take_length] at hgv
    have k8 : (M.put b8 (.cells true (strs V) 3)) b8 = some (.cells true (strs V) 3) := put_same _ _ _
    have hs8 : Sub M (M.put b8 (.cells true (strs V) 3)) := (Sub.refl M).put hb8 _
    simp (disch := omega)
    generalize M.put b8 (.cells true (strs V) 3) = N at *
    intro bo hbo
    simp (disch := omega)
    refine loop_to tab_ok [13, 14, 68, 69, 70, 71, 72, 73, 74, 75, 76, 77, 78, 79, 80, 81, 82, 83] (fun x : Nat × Value => [(14, .int .i64 x.1), (13, x.2)]) (fun x M' => x.1 ≤ 3 ∧ Own N x.2 (strs (fillV (V.take x.1))) M') (fun x => 3 - x.1) (0, .slice (some ⟨bo, 0, none⟩) 0 0) (by kernel_rfl) (by simp (disch := omega)) ⟨by omega, Own.new hbo rfl (Nat.le_refl 0)⟩ ?_
    rintro ⟨j, v2⟩ M2 g2 ⟨hj, ho⟩
    simp only at hj ho
    by_cases hjl : j < 3
    · have hjV : j < V.length := by rw [hV.1]; exact hjl
      have hgv3 := val_get hV.1 hjl
      have hsn := fill_snoc hjV
      rw [← getD_at hjV] at hsn
      generalize V.getD j [] = u at *
      have hk8 := ho.sub _ _ k8
      have hlen : (fillV (V.take j)).length ≤ 3 := by
        unfold fillV
        exact Nat.le_trans (List.length_filter_le _ _) (by rw [List.length_take]; omega)
      generalize fillV (V.take j) = L at *
      cases he : u.isEmpty
      · rw [he, if_neg (by decide)] at hsn
        simp (disch := omega) [get_of hk8, hgv3, at_in hgv3, he]
        intro b' hb'
        simp (disch := omega)
        refine app_own ho ((Sub.refl _).put hb' _) (by simp (disch := omega); rfl) rfl rfl (by omega) (by simp (disch := omega)) (by simp (disch := omega); omega) ?_
        intro v' M'' N'' ho' hs'
        simp (disch := omega)
        refine Rnd.mk'' M'' (j + 1, v') hs' (by simp only; omega) (by (repeat (first | exact km | refine kp rfl ?_ | refine km' rfl ?_))) (by simp (disch := omega)) ⟨by simp only; omega, ?_⟩
        simp only
        rw [hsn, ← strs_snoc]
        exact ho'
      · rw [he, if_pos rfl, List.append_nil] at hsn
        simp (disch := omega) [get_of hk8, hgv3, at_in hgv3, he]
        refine Rnd.mk' (j + 1, v2) (by simp only; omega) (by (repeat (first | exact km | refine kp rfl ?_ | refine km' rfl ?_))) (by simp (disch := omega)) ⟨by simp only; omega, ?_⟩
        simp only
        rw [hsn]
        exact ho
    · have hj' : j = 3 := by omega
      subst hj'
      rw [List.take_of_length_le (by rw [hV.1]; omega)] at ho
      obtain ⟨M3, o3, s3⟩ := ho.base hs8
      simp (disch := omega)
      have e : ((t : Int) == (w.length : Int)) = decide (t = w.length) := by
        rw [Bool.eq_iff_iff, beq_iff_eq, decide_eq_true_eq]; omega
      rw [e]
      exact ret_sub s3 (h1 V t hgv _ _ o3)
theorem sumV_snoc {p : List UInt8} {ls : List Nat} {i : Nat} (hi : i < p.length) : sumV (p.take (i + 1)) ls = sumV (p.take i) ls + ls.getD (vIdx p[i]) 0 := by
  unfold sumV
  rw [take_snoc p hi, List.map_append, List.sum_append]
  simp
theorem cntV_snoc {p : List UInt8} {k i : Nat} (hi : i < p.length) : cntV (p.take (i + 1)) k = cntV (p.take i) k + if vIdx p[i] = k then 1 else 0 := by
  unfold cntV
  rw [take_snoc p hi, List.countP_append, List.countP_singleton]
  simp
theorem sumV_le {ls : List Nat} (h : Low ls) : ∀ p : List UInt8, sumV p ls ≤ 60 * p.length
  | [] => by simp [sumV]
  | c :: p => by
    have ih := sumV_le h p
    have h1 := h (vIdx c)
    have e : sumV (c :: p) ls = ls.getD (vIdx c) 0 + sumV p ls := by simp [sumV]
    rw [e, List.length_cons]
    omega
theorem cntV_le (p : List UInt8) (k : Nat) : cntV p k ≤ p.length := List.countP_le_length
theorem low_snoc {ls : List Nat} (h : Low ls) {n : Nat} (hn : n ≤ 60) : Low (ls ++ [n]) := by
  intro k
  rw [List.getD_eq_getElem?_getD]
  by_cases hk : k < ls.length
  · rw [List.getElem?_append_left hk, ← List.getD_eq_getElem?_getD]; exact h k
  · rw [List.getElem?_append_right (by omega)]
    cases hq : ([n] : List Nat)[k - ls.length]? with
    | none => simp
    | some x =>
      have := List.mem_of_getElem? hq
      rw [List.mem_singleton.1 this]; exact hn
theorem low_nil : Low [] := fun k => by simp
theorem natsV_flat (ls : List Nat) : ∀ v ∈ natsV ls, flatV v = true := by
  intro v hv
  obtain ⟨n, _, rfl⟩ := List.mem_map.1 hv
  rfl
theorem getD_over {ls : List Nat} {k : Nat} (h : ls.length ≤ k) : ls.getD k 0 = 0 := by
  rw [List.getD_eq_getElem?_getD, List.getElem?_eq_none h]; rfl
def srchTo (w p : List UInt8) (d : Nat) (ls : List Nat) (m : Nat) : Option Vals := (List.range m).findSome? fun n => srch w p d (ls ++ [n + 1])
theorem srchTo_succ {w p : List UInt8} {d m : Nat} {ls : List Nat} (h : srchTo w p d ls m = none) : srchTo w p d ls (m + 1) = srch w p d (ls ++ [m + 1]) := by
  unfold srchTo at *
  rw [List.range_succ, List.findSome?_append, h, Option.none_or]
  cases hf : srch w p d (ls ++ [m + 1]) <;> simp [List.findSome?, hf]
theorem srchTo_hit {w p : List UInt8} {d m n : Nat} {ls : List Nat} {V : Vals} (hm : m < n) (h0 : srchTo w p d ls m = none) (h : srch w p d (ls ++ [m + 1]) = some V) : srchTo w p d ls n = some V := by
  have h1 : srchTo w p d ls (m + 1) = some V := by rw [srchTo_succ h0, h]
  obtain ⟨e, rfl⟩ : ∃ e, n = m + 1 + e := ⟨n - m - 1, by omega⟩
  unfold srchTo at *
  rw [List.range_add, List.findSome?_append, h1, Option.some_or]
theorem srcOf_sub {M N : Mem} {v : Value} {l : List Value} (h : srcOf M v = some l) (hs : Sub M N) : srcOf N v = some l := by
  unfold srcOf at *
  split at h
  · exact h
  · rename_i b o n c
    show N.sub? b o n = some l
    unfold Mem.sub? at *
    split at h
    · rename_i hb; rw [hs _ _ hb]; exact h
    · cases h
  · exact h
  · cases h
theorem natL_snoc (ls : List Nat) (n : Nat) : natsV ls ++ [.int .i64 (n : Nat)] = natsV (ls ++ [n]) := by simp [natsV]
theorem l10Lengths_does (w p : List UInt8) (hl : w.length ≤ 60) (hpv : p.all isV = true) (hp8 : p.length ≤ 8) : ∀ (d : Nat) (ls : List Nat) (v : Value) (M : Mem) (R : Value → Mem → Prop), Rd M v (natsV ls) → srcOf M v = some (natsV ls) → ls.length + d = 3 → Low ls →
    (∀ V, srch w p d ls = some V → ∀ v' M', Own M v' (strs (fillV V)) M' → R (.tuple #[v', .bool true]) M') → (srch w p d ls = none → ∀ v' M', Sub M M' → R (.tuple #[v', .bool false]) M') →
    Does Try.prog 86 [str w, str p, v] M R
  | 0, ls, v, M, R, hv, hsv, h3, hlow, h1, h0 => by
    obtain ⟨a, c, rfl, ha⟩ := hv.opened
    have h3 : ls.length = 3 := by omega
    unfold srch at h1 h0
    rw [natsV_length, h3] at hv ⊢
    refine does_fn tab_ok Try.func86 rfl (by kernel_rfl) (by kernel_rfl) Try.ntmps86 Try.results86 rfl ?_
    simp (disch := omega)
    refine l10Given_does w p _ ls _ _ hl hpv hp8 hv h3 hlow ?_ ?_
    · intro V t hg v' M' ho
      rw [hg] at h1 h0
      simp only at h1 h0
      by_cases ht : t = w.length
      · rw [if_pos ht] at h1
        rw [decide_eq_true ht]
        simp (disch := omega)
        exact ret_of (h1 V rfl v' M' ho)
      · rw [if_neg ht] at h0
        rw [decide_eq_false ht]
        simp (disch := omega)
        exact ret_of (h0 rfl v' M' ho.sub)
    · intro hg M' hs
      rw [hg] at h0
      simp (disch := omega)
      exact ret_of (h0 rfl _ M' hs)
  | d + 1, ls, v, M, R, hv, hsv, h3, hlow, h1, h0 => by
    obtain ⟨a, c, rfl, ha⟩ := hv.opened
    have hll : ls.length ≤ 2 := by omega
    unfold srch at h1 h0
    obtain ⟨m, hm⟩ : ∃ m, m = ls.length := ⟨_, rfl⟩
    rw [natsV_length, ← hm] at ha hv hsv ⊢
    rw [← hm] at h1 h0
    have hm3 : ¬ (m : Int) = 3 := by omega
    have hwr : IntKind.u8.wrap (65 + (m : Int)) = 65 + m := by unfold IntKind.wrap; simp [IntKind.bits, IntKind.signed]; omega
    refine does_fn tab_ok Try.func86 rfl (by kernel_rfl) (by kernel_rfl) Try.ntmps86 Try.results86 rfl ?_
    simp (disch := omega) [hm3, hwr]
    refine loop_to tab_ok [9, 10, 11, 28, 29, 30, 31, 32, 33, 34, 35, 36, 37, 38, 39, 40, 41, 42, 43, 44, 45, 46, 47, 48, 49, 50, 51, 52, 53, 54, 55, 56, 57] (fun i : Nat => [(11, .int .i64 i), (9, .int .i64 (sumV (p.take i) ls : Nat)), (10, .int .i64 (cntV (p.take i) m : Nat))]) (fun i M' => i ≤ p.length ∧ M' = M) (fun i => p.length - i) 0 (by kernel_rfl) (by simp (disch := omega); exact ⟨rfl, rfl⟩) ⟨by omega, rfl⟩ ?_
    rintro i M' g ⟨hi, rfl⟩
    have hsl := sumV_le hlow (p.take i)
    have hcl := cntV_le (p.take i) m
    rw [List.length_take] at hsl hcl
    by_cases hlt : i < p.length
    · have hx : p[i]? = some p[i] := List.getElem?_eq_getElem hlt
      have hc := isV_range (List.all_eq_true.1 hpv _ (List.getElem_mem hlt))
      have e1 := sumV_snoc (ls := ls) hlt
      have e2 := cntV_snoc (k := m) hlt
      have hlo := hlow (vIdx p[i])
      generalize sumV (p.take i) ls = sm at *
      generalize cntV (p.take i) m = ct at *
      generalize p[i] = u at *
      have hk : ((u.toNat : Int) - 65).toNat = vIdx u := by unfold vIdx; omega
      have hk' : vIdx u = u.toNat - 65 := rfl
      by_cases h3' : vIdx u < m
      · rcases ha with hz | ⟨b, o, rfl, ha⟩
        · omega
        have hne : ((u.toNat : Int) == 65 + (m : Int)) = false := beq_eq_false_iff_ne.2 (by omega)
        have hlt' : (u.toNat : Int) - 65 < m := by omega
        have hg := ha _ h3'
        rw [natsV_at (by omega)] at hg
        rw [if_neg (by omega)] at e2
        generalize ls.getD (vIdx u) 0 = l at *
        simp (disch := omega) [hx, at_u8 hx, hk, hne, hlt', hg]
        exact Rnd.mk' (i + 1) (by omega) (by (repeat (first | exact km | refine kp rfl ?_ | refine km' rfl ?_))) (by simp (disch := omega) [e1, e2]) ⟨by omega, rfl⟩
      · have hlt' : ¬ (u.toNat : Int) - 65 < m := by omega
        rw [getD_over (by omega), Nat.add_zero] at e1
        by_cases h4 : vIdx u = m
        · have hne : ((u.toNat : Int) == 65 + (m : Int)) = true := by rw [beq_iff_eq]; omega
          rw [if_pos h4] at e2
          simp (disch := omega) [hx, at_u8 hx, hk, hne, hlt']
          exact Rnd.mk' (i + 1) (by omega) (by (repeat (first | exact km | refine kp rfl ?_ | refine km' rfl ?_))) (by simp (disch := omega) [e1, e2]) ⟨by omega, rfl⟩
        · have hne : ((u.toNat : Int) == 65 + (m : Int)) = false := beq_eq_false_iff_ne.2 (by omega)
          rw [if_neg h4, Nat.add_zero] at e2
          simp (disch := omega) [hx, at_u8 hx, hk, hne, hlt']
          exact Rnd.mk' (i + 1) (by omega) (by (repeat (first | exact km | refine kp rfl ?_ | refine km' rfl ?_))) (by simp (disch := omega) [e1, e2]) ⟨by omega, rfl⟩
    · have hi' : i = p.length := by omega
      subst hi'
      rw [List.take_length]
      rw [Nat.min_self] at hsl hcl
      rw [List.take_length] at hsl hcl
      by_cases hc0 : cntV p m = 0
      · rw [if_pos hc0] at h1 h0
        rw [hc0]
        simp (disch := omega)
        intro bn hbn
        have o0 : Own M' (.slice (some ⟨bn, 0, none⟩) 0 0) [] (M'.put bn (.cells true [] 0)) := Own.new hbn rfl (Nat.le_refl 0)
        dsimp only
        generalize M'.put bn (.cells true [] 0) = N0 at *
        generalize Value.slice (some ⟨bn, 0, none⟩) 0 0 = v0 at *
        simp (disch := omega)
        refine app_own o0 (Sub.refl _) (srcOf_sub hsv o0.sub) rfl rfl (by omega) (natsV_flat ls) (by simp (disch := omega) [natsV_length]; omega) ?_
        intro v1 M1 N1 o1 s1
        simp (disch := omega)
        intro b2 hb2
        simp (disch := omega)
        refine app_own o1 (s1.trans ((Sub.refl _).put hb2 _)) (by simp (disch := omega); rfl) rfl rfl (by omega) (by simp (disch := omega)) (by simp (disch := omega); rw [natsV_length]; omega) ?_
        intro v3 M3 N3 o3 s3
        have e3 : [] ++ natsV ls ++ [Value.int .i64 0] = natsV (ls ++ [0]) := natL_snoc ls 0
        rw [e3] at o3
        have r3 := o3.rd.sub s3
        simp (disch := omega)
        refine l10Lengths_does w p hl hpv hp8 d (ls ++ [0]) v3 N3 _ r3 (rd_src r3 (by rw [natsV_length]; simp)) (by simp; omega) (low_snoc hlow (by omega)) ?_ ?_
        · intro V hV v' M4 o4
          obtain ⟨M5, o5, s5⟩ := o4.base (o3.sub.trans s3)
          simp (disch := omega)
          exact ret_sub s5 (h1 V hV v' _ o5)
        · intro hno v' M4 s4
          simp (disch := omega)
          exact ret_of (h0 hno v' _ ((o3.sub.trans s3).trans s4))
      · rw [if_neg hc0] at h1 h0
        have hcp : 0 < cntV p m := Nat.pos_of_ne_zero hc0
        have hc0' : ¬ (cntV p m : Int) = 0 := by omega
        have hdiv := fun n => Nat.le_div_iff_mul_le hcp (x := n) (y := w.length - sumV p ls)
        have hq : (w.length - sumV p ls) / cntV p m ≤ w.length - sumV p ls := Nat.div_le_self _ _
        have h1 : ∀ V, srchTo w p d ls ((w.length - sumV p ls) / cntV p m) = some V → ∀ v' M'', Own M' v' (strs (fillV V)) M'' → R (.tuple #[v', .bool true]) M'' := h1
        have h0 : srchTo w p d ls ((w.length - sumV p ls) / cntV p m) = none → ∀ v' M'', Sub M' M'' → R (.tuple #[v', .bool false]) M'' := h0
        generalize sumV p ls = sm at *
        generalize hct : cntV p m = ct at *
        generalize (w.length - sm) / ct = q at *
        simp (disch := omega) [hc0']
        refine loop_to tab_ok [6, 7, 12, 13, 14, 70, 71, 72, 73, 74, 75, 76, 77, 78, 79, 80, 81, 82, 83, 84, 85, 86, 87, 88, 89, 90, 91, 92, 93] (fun n : Nat => [(12, .int .i64 ((n : Int) + 1))]) (fun n M'' => n ≤ q ∧ Sub M' M'' ∧ srchTo w p d ls n = none) (fun n => q - n) 0 (by kernel_rfl) (by simp (disch := omega)) ⟨Nat.zero_le _, Sub.refl _, rfl⟩ ?_
        rintro n M'' g2 ⟨hn, hs, hno⟩
        obtain ⟨z, hz⟩ : ∃ z, z = (n + 1) * ct := ⟨_, rfl⟩
        have hz' : ((n : Int) + 1) * (ct : Int) = (z : Int) := by rw [hz]; push_cast; rfl
        have hd1 := hdiv (n + 1)
        rw [← hz] at hd1
        have hzb : z ≤ 61 * 8 := by rw [hz]; exact Nat.mul_le_mul (by omega) (by omega)
        by_cases hlt2 : n < q
        · have hcond : (sm : Int) + z ≤ w.length := by
            have := hd1.1 (by omega)
            have : 0 < z := by rw [hz]; exact Nat.mul_pos (by omega) hcp
            omega
          simp (disch := omega) [hz', hcond]
          intro bn hbn
          have o0 : Own M'' (.slice (some ⟨bn, 0, none⟩) 0 0) [] (M''.put bn (.cells true [] 0)) := Own.new hbn rfl (Nat.le_refl 0)
          dsimp only
          generalize M''.put bn (.cells true [] 0) = N0 at *
          generalize Value.slice (some ⟨bn, 0, none⟩) 0 0 = v0 at *
          simp (disch := omega)
          refine app_own o0 (Sub.refl _) (srcOf_sub (srcOf_sub hsv hs) o0.sub) rfl rfl (by omega) (natsV_flat ls) (by simp (disch := omega) [natsV_length]; omega) ?_
          intro v1 M1 N1 o1 s1
          simp (disch := omega)
          intro b2 hb2
          simp (disch := omega)
          refine app_own o1 (s1.trans ((Sub.refl _).put hb2 _)) (by simp (disch := omega); rfl) rfl rfl (by omega) (by simp (disch := omega)) (by simp (disch := omega); rw [natsV_length]; omega) ?_
          intro v3 M3 N3 o3 s3
          have e3 : [] ++ natsV ls ++ [Value.int .i64 ((n : Int) + 1)] = natsV (ls ++ [n + 1]) := natL_snoc ls (n + 1)
          rw [e3] at o3
          have r3 := o3.rd.sub s3
          have s13 := hs.trans (o3.sub.trans s3)
          have hn60 : n + 1 ≤ 60 := by omega
          simp (disch := omega)
          refine l10Lengths_does w p hl hpv hp8 d (ls ++ [n + 1]) v3 N3 _ r3 (rd_src r3 (by rw [natsV_length]; simp)) (by simp; omega) (low_snoc hlow hn60) ?_ ?_
          · intro V hV v' M4 o4
            obtain ⟨M5, o5, s5⟩ := o4.base s13
            simp (disch := omega)
            exact ret_sub s5 (h1 V (srchTo_hit hlt2 hno hV) v' _ o5)
          · intro hno2 v' M4 s4
            simp (disch := omega)
            exact Rnd.mk' (n + 1) (by omega) (by (repeat (first | exact km | refine kp rfl ?_ | refine km' rfl ?_))) (by simp (disch := omega)) ⟨by omega, s13.trans s4, by rw [srchTo_succ hno, hno2]⟩
        · have hcond : ¬ (sm : Int) + z ≤ w.length := by
            intro hh
            have := hd1.2 (by omega)
            omega
          have hnq : n = q := by omega
          subst hnq
          simp (disch := omega) [hz', hcond]
          exact ret_of (h0 hno _ _ hs)
theorem spec_FirstPlace (w p : List UInt8) (M : Mem) (R : Value → Mem → Prop) (hw : w.length ≤ 1099511627776) (hp : p.length ≤ 1099511627776) (h : LstI (plI w p) (plC w p) (strs (plL w p)) M R) : Does Try.prog 24 [str w, str p] M R := by
  unfold plI plC plL at h
  refine does_fn tab_ok Try.func24 rfl (by kernel_rfl) (by kernel_rfl) Try.ntmps24 Try.results24 rfl ?_
  simp (disch := omega)
  refine l10Code_does w p _ _ hw hp ?_
  cases hb : isWord w && isPat p
  · rw [hb] at h
    simp (disch := omega)
    exact ret_of (h _ _ (Own.nil M))
  · rw [hb, if_pos rfl, if_pos rfl, if_pos rfl] at h
    rw [Bool.and_eq_true] at hb
    have h60 := isWord_len hb.1
    obtain ⟨hp1, hp8, hpv⟩ := isPat_in hb.2
    have hpi : ∀ c ∈ p, vIdx c < 3 := fun c hc => by
      have := isV_range (List.all_eq_true.1 hpv c hc)
      unfold vIdx; omega
    simp (disch := omega)
    refine loop_to tab_ok [4, 5, 6, 8, 9, 10, 11, 18, 19, 20, 21, 22, 23, 24, 25, 26, 27, 28, 29, 30, 31, 32, 33, 34, 35, 36, 37, 38, 39, 40, 41, 42, 43, 44, 45, 46, 47, 48, 49, 50, 51, 52] (fun i : Nat => [(8, .int .i64 i)]) (fun i M' => i ≤ w.length ∧ M' = M ∧ placeTo w p i = none) (fun i => w.length - i) 0 (by kernel_rfl) (by simp (disch := omega)) ⟨by omega, rfl, rfl⟩ ?_
    rintro i M' g ⟨hi, rfl, hno⟩
    by_cases hlt : i < w.length
    · have hbest := best_is (u := w.drop i) hpi (by intro e; rw [e] at hp1; simp at hp1)
      have hat : placeAt w p i = if 0 < (bestF (sols (w.drop i) p V0 0)).1 then some (i, (bestF (sols (w.drop i) p V0 0)).2) else none := rfl
      have hul : (w.drop i).length = w.length - i := List.length_drop
      generalize bestF (sols (w.drop i) p V0 0) = s at *
      obtain ⟨least, best⟩ := s
      simp only at hbest hat
      have hshort : 0 < least → p.length ≤ least := by
        intro h0
        rcases hbest with ⟨hz, _⟩ | ⟨_, hle, hf, _⟩
        · omega
        · have := fitB_len _ _ _ hf
          rw [List.length_take] at this
          omega
      simp (disch := omega)
      refine loop_to tab_ok [4, 5, 6, 9, 10, 11, 28, 29, 30, 31, 32, 33, 34, 35, 36, 37, 38, 39, 40, 41, 42, 43, 44, 45, 46, 47, 48, 49, 50, 51, 52] (fun k : Nat => [(9, .int .i64 k)]) (fun k M2 => M2 = M' ∧ i + p.length ≤ k ∧ k ≤ w.length + 9 ∧ (0 < least → k ≤ i + least)) (fun k => w.length + 9 - k) (i + p.length) (by kernel_rfl) (by simp (disch := omega)) ⟨rfl, by omega, by omega, fun h0 => by have := hshort h0; omega⟩ ?_
      rintro k M2 g2 ⟨rfl, hk, hk9, hkl⟩
      by_cases hkw : k ≤ w.length
      · have hseg : (w.take k).drop i = (w.drop i).take (k - i) := by rw [List.drop_take]
        have hsl : ((w.drop i).take (k - i)).length ≤ 60 := by rw [List.length_take, hul]; omega
        simp (disch := omega) [hseg]
        refine l10Fits_does _ p _ _ hsl hb.2 ?_
        by_cases hend : 0 < least ∧ k = i + least
        · obtain ⟨h0, hke⟩ := hend
          rcases hbest with ⟨hz, _⟩ | ⟨_, hle, hf, _, hs⟩
          · omega
          rw [if_pos h0] at hat
          have hpl : placeF w p = some (i, best) := placeTo_hit hlt hno hat
          rw [hpl] at h
          rw [show k - i = least by omega] at hsl hseg ⊢
          rw [hf]
          generalize (w.drop i).take least = u at *
          simp (disch := omega) [hseg]
          intro bn hbn
          have rn : Rd (M2.put bn (.cells true [] 0)) (.slice (some ⟨bn, 0, none⟩) 0 0) (natsV []) := Rd.new rfl (Nat.le_refl 0)
          have sn : srcOf (M2.put bn (.cells true [] 0)) (.slice (some ⟨bn, 0, none⟩) 0 0) = some (natsV []) := by
            show Mem.sub? _ bn 0 0 = some []
            rw [sub_of (put_same _ _ _)]
            simp [optIf]
          have s0 : Sub M2 (M2.put bn (.cells true [] 0)) := (Sub.refl _).put hbn _
          simp (disch := omega) [hseg]
          generalize M2.put bn (.cells true [] 0) = N at *
          have key := fun R' => l10Lengths_does u p hsl hpv hp8 3 [] _ N R' rn sn (by simp) low_nil
          refine key _ ?_ ?_
          · intro V hV v' M3 o3
            rw [hs] at hV
            injection hV with hV
            subst hV
            obtain ⟨M4, o4, s4⟩ := o3.base s0
            simp (disch := omega)
            exact ret_sub s4 (h _ _ o4)
          · intro hn
            rw [hs] at hn
            cases hn
        · have hf : fitsB ((w.drop i).take (k - i)) p = false := by
            rcases hbest with ⟨hz, hall⟩ | ⟨_, hle, _, hall, _⟩
            · exact hall _ (by omega)
            · exact hall _ (by have := hkl (by omega); omega)
          rw [hf]
          simp (disch := omega)
          exact Rnd.mk' (k + 1) (by omega) (by (repeat (first | exact km | refine kp rfl ?_ | refine km' rfl ?_))) (by simp (disch := omega)) ⟨rfl, by omega, by omega, fun h0 => by have := hkl h0; omega⟩
      · have h0 : ¬ 0 < least := by
          intro h0
          rcases hbest with ⟨hz, _⟩ | ⟨_, hle, _⟩
          · omega
          · have := hkl h0; omega
        rw [if_neg h0] at hat
        simp (disch := omega)
        exact Rnd.mk' (i + 1) (by omega) (by (repeat (first | exact km | refine kp rfl ?_ | refine km' rfl ?_))) (by simp (disch := omega)) ⟨by omega, rfl, by rw [placeTo_succ hno, hat]⟩
    · have hi' : i = w.length := by omega
      subst hi'
      have e : placeF w p = none := hno
      rw [e] at h
      simp (disch := omega)
      exact ret_of (h _ _ (Own.nil _))
theorem plL_len (w p : List UInt8) : (plL w p).length ≤ 3 := by
  unfold plL
  split
  · rename_i hb
    cases hq : placeF w p with
    | none => simp
    | some x =>
      simp only
      unfold placeF placeTo at hq
      obtain ⟨i, _, hq⟩ := List.exists_of_findSome?_eq_some hq
      unfold placeAt at hq
      split at hq
      · injection hq with hq
        subst hq
        rw [Bool.and_eq_true] at hb
        obtain ⟨hp1, hp8, hpv⟩ := isPat_in hb.2
        have hpi : ∀ c ∈ p, vIdx c < 3 := fun c hc => by
          have := isV_range (List.all_eq_true.1 hpv c hc)
          unfold vIdx; omega
        rename_i h0
        rcases best_is (u := w.drop i) hpi (by intro e; rw [e] at hp1; simp at hp1) with ⟨hz, _⟩ | ⟨_, _, _, _, hs⟩
        · omega
        · have ok := srch_is ((w.drop i).take (bestF (sols (w.drop i) p V0 0)).1) p hpi 3 [] rfl (fun k hk => by simp at hk)
          rw [hs] at ok
          have hl3 := ok.1.len
          unfold fillV
          exact Nat.le_trans (List.length_filter_le _ _) (Nat.le_of_eq hl3)
      · cases hq
  · simp
theorem law_FirstPlace (w p : List UInt8) (M : Mem) (R : Value → Mem → Prop) (hw : w.length ≤ 140737488351232) (hp : p.length ≤ 140737488351232) (h : ∀ M', Sub M M' → R (.bool true) M') : Does Try.prog 4 [str w, str p] M R := by
  have hb := plL_len w p
  refine does_fn tab_ok Try.func4 rfl (by kernel_rfl) (by kernel_rfl) Try.ntmps4 Try.results4 rfl ?_
  by_cases hz : (1048576 : Int) < w.length
  · simp (disch := omega) [hz]
    exact ret_of (h _ (Sub.refl _))
  by_cases hz2 : (1048576 : Int) < p.length
  · simp (disch := omega) [hz, hz2]
    exact ret_of (h _ (Sub.refl _))
  have e1 := fun M R => spec_FirstPlace w p M R (by omega) (by omega)
  have e2 := fun M R => impl_FirstPlace w p M R (by omega) (by omega)
  revert e1 e2 hb
  generalize plC w p = c
  generalize plI w p = pi
  generalize plL w p = zs
  intro hb e1 e2
  simp (disch := omega) [hz, hz2]
  refine e1 _ _ ?_
  intro v1 M1 o1
  simp (disch := omega)
  refine e2 _ _ ?_
  intro v2 M2 o2
  simp (disch := omega)
  refine eqStringS_does v2 v1 zs zs _ _ o2.rd (o1.rd.sub o2.sub) (by omega) (by omega) ?_
  simp (disch := omega)
  refine markStringS_does v2 _ _ _ _ _ o2 (by simp (disch := omega); omega) (by omega) (by omega) ?_
  intro M3 o3
  simp (disch := omega)
  refine heldStringS_does v2 _ _ _ _ o3.rd (by simp (disch := omega); omega) (by omega) (by omega) ?_
  simp (disch := omega)
  refine e2 _ _ ?_
  intro v4 M4 o4
  simp (disch := omega)
  refine eqStringS_does v4 v1 zs zs _ _ o4.rd ((o1.rd.sub o3.sub).sub o4.sub) (by omega) (by omega) ?_
  simp (disch := omega)
  refine heldStringS_does v2 _ _ _ _ (o3.rd.sub o4.sub) (by simp (disch := omega); omega) (by omega) (by omega) ?_
  simp (disch := omega)
  exact ret_of (h _ (((o1.sub.trans o3.sub)).trans o4.sub))
end Go.Proofs.Ytbefijbmgmbphaa
