/- Contracts: grown words, of the reference. -/
import Derived.Test.YtbefijbmgmbphaaC34
namespace Go.Proofs.Ytbefijbmgmbphaa
open Go
set_option linter.unusedSimpArgs false
set_option linter.unusedVariables false

def bls (l : List Bool) : List Value := l.map Value.bool
theorem bls_length (l : List Bool) : (bls l).length = l.length := by simp [bls]
theorem bls_get (l : List Bool) (i : Nat) : (bls l)[i]? = (l[i]?).map Value.bool := by simp [bls]
theorem bls_set (l : List Bool) (i : Nat) (x : Bool) : (bls l).set i (.bool x) = bls (l.set i x) := by simp [bls, List.map_set]
theorem bls_rep (n : Nat) (x : Bool) : List.replicate n (Value.bool x) = bls (List.replicate n x) := by simp [bls]
def msr (k : Nat) (x : Bool × List Bool) : Nat := if x.1 then 1 + (k - x.2.count true) else 0
def deadL (ws : List (List UInt8)) : List Bool := (List.range ws.length).map fun i => dead ws ws.length (ltr i)
theorem deadL_length (ws : List (List UInt8)) : (deadL ws).length = ws.length := by simp [deadL]
theorem deadL_of {ws : List (List UInt8)} {out : List Bool} (hl : out.length = ws.length) (h : ∀ i, i < ws.length → out[i]? = some (dead ws ws.length (ltr i))) : out = deadL ws := by
  apply List.ext_getElem?
  intro i
  by_cases hi : i < ws.length
  · rw [h i hi]
    simp [deadL, hi]
  · rw [List.getElem?_eq_none (by omega), List.getElem?_eq_none (by rw [deadL_length]; omega)]
theorem deadL_get {ws : List (List UInt8)} {c : UInt8} (h : 97 ≤ c.toNat ∧ c.toNat - 97 < ws.length) : (bls (deadL ws))[c.toNat - 97]? = some (.bool (dead ws ws.length c)) := by
  rw [bls_get]
  simp [deadL, h.2, lt_ltr h]
theorem atI {L : List Value} {j : Nat} {v : Value} (h : L[j]? = some v) (hj : j < L.length) : L[j] = v := by
  rw [List.getElem?_eq_getElem hj] at h
  exact Option.some.inj h
def accB (ou : List Bool) (row : List UInt8) (j : Nat) : Bool := (row.take j).all fun c => ou.getD (c.toNat - 97) false
theorem all_take_succ (l : List UInt8) (p : UInt8 → Bool) {j : Nat} (h : j < l.length) : (l.take (j + 1)).all p = ((l.take j).all p && p l[j]) := by
  rw [take_snoc l h, List.all_append]; simp
def accD (ws : List (List UInt8)) (u : List UInt8) (j : Nat) : Bool := (u.take j).all (dead ws ws.length)
theorem accD_succ (ws : List (List UInt8)) (u : List UInt8) {j : Nat} (h : j < u.length) : accD ws u (j + 1) = (accD ws u j && dead ws ws.length u[j]) := all_take_succ u (dead ws ws.length) h
theorem accD_all (ws : List (List UInt8)) (u : List UInt8) : accD ws u u.length = u.all (dead ws ws.length) := by unfold accD; rw [List.take_length]
theorem accD_zero (ws : List (List UInt8)) (u : List UInt8) : accD ws u 0 = true := rfl
theorem l06Mortal_does (v : Value) (ws : List (List UInt8)) (M : Mem) (R : Value → Mem → Prop) (hv : Rd M v (strs ws)) (hm : isMor ws = true)
    (h : ∀ b M', Sub M M' → M' b = some (.cells true (bls (deadL ws)) ws.length) → R (.slice (some ⟨b, 0, none⟩) ws.length ws.length) M') : Does Try.prog 199 [.agg #[v]] M R := by
  have h15 := mor_len hm
  refine does_fn tab_ok Try.func199 rfl (by kernel_rfl) (by kernel_rfl) Try.ntmps199 Try.results199 rfl ?_
  obtain ⟨aa, c, rfl, ha⟩ := hv.opened
  rw [strs_length] at ha hv ⊢
  simp (disch := omega)
  intro b1 hb1
  have hs1 : Sub M (M.put b1 (.cells true [.slice aa ws.length c] 1)) := (Sub.refl M).put hb1 _
  have k1 : (M.put b1 (.cells true [.slice aa ws.length c] 1)) b1 = some (.cells true [.slice aa ws.length c] 1) := put_same _ _ _
  simp (disch := omega)
  generalize M.put b1 (.cells true [.slice aa ws.length c] 1) = N1 at *
  rcases ha with hz | ⟨b, o, rfl, ha⟩
  · omega
  have hget : ∀ i, (hi : i < ws.length) → N1.get? b (o + i) = some (str ws[i]) := by
    intro i hi
    have := ha i hi
    rw [strs_get, List.getElem?_eq_getElem hi] at this
    exact get_keep this hs1
  try simp (disch := omega) [get_of k1]
  intro b3 hb3
  simp (disch := omega)
  have e0 : List.replicate ws.length (Value.bool false) = bls (List.replicate ws.length false) := bls_rep _ _
  rw [e0]
  refine loop_to tab_ok [4, 5, 6, 7, 12, 13, 14, 15, 16, 17, 18, 19, 20, 21, 22, 23, 24, 25, 26, 27, 28, 29, 30, 31, 32, 33, 34, 35, 36, 37, 38, 39, 40, 41, 42, 43, 44, 45, 46, 47, 48, 49, 50, 51, 52, 53] (fun x : Bool × List Bool => [(4, .bool x.1)]) (fun x M' => x.2.length = ws.length ∧ Snd ws x.2 ∧ (x.1 = false → ∀ i, i < ws.length → Cls ws x.2 i) ∧ M' = N1.put b3 (.cells true (bls x.2) ws.length)) (msr ws.length) (true, List.replicate ws.length false) (by kernel_rfl) (by simp (disch := omega)) ⟨by simp, ?_, (fun h => by cases h), rfl⟩ ?_
  · intro i hi hh
    rw [List.getElem?_replicate_of_lt hi] at hh
    cases hh
  rintro ⟨more, out⟩ M' g ⟨hl, hsn, hcl, rfl⟩
  simp only at hl hsn hcl
  cases more with
  | false =>
    have hf := deadL_of hl (mort_fin hm hl hsn (hcl rfl))
    subst hf
    simp (disch := omega)
    exact ret_of (h _ _ (hs1.putN hb3 _) (put_same _ _ _))
  | true =>
    simp (disch := omega)
    refine loop_to tab_ok [4, 5, 6, 7, 13, 14, 15, 16, 17, 18, 19, 20, 21, 22, 23, 24, 25, 26, 27, 28, 29, 30, 31, 32, 33, 34, 35, 36, 37, 38, 39, 40, 41, 42, 43, 44, 45, 46, 47, 48, 49, 50, 51, 52, 53] (fun x : Nat × Bool × List Bool => [(5, .int .i64 x.1), (4, .bool x.2.1)]) (fun x M' => x.1 ≤ ws.length ∧ x.2.2.length = ws.length ∧ Snd ws x.2.2 ∧ out.count true ≤ x.2.2.count true ∧ (x.2.1 = true → out.count true < x.2.2.count true) ∧ (x.2.1 = false → ∀ j, j < x.1 → Cls ws x.2.2 j) ∧ M' = N1.put b3 (.cells true (bls x.2.2) ws.length)) (fun x => ws.length - x.1) (0, false, out) (by kernel_rfl) (by simp (disch := omega)) ⟨by simp only; omega, hl, hsn, Nat.le_refl _, fun h => (by cases h), fun _ j hj => absurd hj (Nat.not_lt_zero j), rfl⟩ ?_
    rintro ⟨i, more, ou⟩ M' g1 ⟨hi, hol, hos, hle, hmt, hmf, rfl⟩
    simp only at hi hol hos hle hmt hmf
    have hbl := bls_length ou
    have sN : Sub N1 (N1.put b3 (.cells true (bls ou) ws.length)) := (Sub.refl N1).put hb3 _
    have l1 := sN _ _ k1
    by_cases hlt : i < ws.length
    · have hgi := get_keep (hget i hlt) sN
      have hgr : ws.getD i [] = ws[i] := by rw [List.getD_eq_getElem?_getD, List.getElem?_eq_getElem hlt]; rfl
      have hrl := row_lt hm hlt
      have hmB : mtB ws ou i = (ws.getD i []).all fun c => ou.getD (c.toNat - 97) false := rfl
      have hr12 : ws[i].length ≤ 12 := (mor_ok hm (List.getElem_mem hlt)).1
      rw [hgr] at hrl hmB
      generalize ws[i] = row at *
      have hoi : ou[i]? = some ou[i] := List.getElem?_eq_getElem (by omega)
      simp (disch := omega)
      refine loop_to tab_ok [6, 7, 19, 20, 21, 22, 23, 24, 25, 26, 27, 28, 29, 30, 31, 32, 33, 34, 35, 36, 37, 38, 39, 40, 41, 42] (fun j : Nat => [(7, .int .i64 j), (6, .bool (accB ou row j))]) (fun j M1 => j ≤ row.length ∧ M1 = N1.put b3 (.cells true (bls ou) ws.length)) (fun j => row.length - j) 0 (by kernel_rfl) (by simp (disch := omega); rfl) ⟨Nat.zero_le _, rfl⟩ ?_
      rintro j M1 g2 ⟨hj, rfl⟩
      by_cases hjl : j < row.length
      · have hx : row[j]? = some row[j] := List.getElem?_eq_getElem hjl
        have hat : accB ou row (j + 1) = (accB ou row j && ou.getD (row[j].toNat - 97) false) := all_take_succ row (fun c => ou.getD (c.toNat - 97) false) hjl
        have hcl := hrl _ (List.getElem_mem hjl)
        have hk : ((row[j].toNat : Int) - 97).toNat = row[j].toNat - 97 := by omega
        have hu := row[j].toNat_lt
        have hov : (bls ou)[row[j].toNat - 97]? = some (.bool (ou.getD (row[j].toNat - 97) false)) := by
          rw [bls_get, List.getD_eq_getElem?_getD, List.getElem?_eq_getElem (by omega)]; rfl
        generalize ou.getD (row[j].toNat - 97) false = fv at *
        generalize accB ou row j = acc at *
        cases acc with
        | false =>
          simp (disch := omega) [get_of l1, hgi]
          exact Rnd.mk' (j + 1) (by omega) (by (repeat (first | exact km | refine kp rfl ?_ | refine km' rfl ?_))) (by simp (disch := omega) [hat]) ⟨by omega, rfl⟩
        | true =>
          rw [Bool.true_and] at hat
          simp (disch := omega) [get_of l1, hgi, hx, hk, hov, atI hov]
          exact Rnd.mk' (j + 1) (by omega) (by (repeat (first | exact km | refine kp rfl ?_ | refine km' rfl ?_))) (by simp (disch := omega) [hat]) ⟨by omega, rfl⟩
      · have hj' : j = row.length := by omega
        subst hj'
        have hac : accB ou row row.length = mtB ws ou i := by rw [hmB]; unfold accB; rw [List.take_length]
        rw [hac]
        have hov : (bls ou)[i]? = some (.bool ou[i]) := by rw [bls_get, hoi]; rfl
        generalize ou[i] = oi at *
        have hnx : Cls ws ou i → more = false → ∀ q, q < i + 1 → Cls ws ou q := fun hc hm0 q hq => by
          by_cases h1 : q = i
          · rw [h1]; exact hc
          · exact hmf hm0 q (by omega)
        cases hmt2 : mtB ws ou i with
        | false =>
          simp (disch := omega) [get_of l1, hgi]
          exact Rnd.mk' (i + 1, more, ou) (by simp only; omega) (by (repeat (first | exact km | refine kp rfl ?_ | refine km' rfl ?_))) (by simp (disch := omega)) ⟨by simp only; omega, hol, hos, hle, hmt, hnx (fun hh => by rw [hmt2] at hh; cases hh), rfl⟩
        | true =>
          cases oi with
          | true =>
            simp (disch := omega) [get_of l1, hgi, hov, atI hov]
            exact Rnd.mk' (i + 1, more, ou) (by simp only; omega) (by (repeat (first | exact km | refine kp rfl ?_ | refine km' rfl ?_))) (by simp (disch := omega)) ⟨by simp only; omega, hol, hos, hle, hmt, hnx (fun _ => hoi), rfl⟩
          | false =>
            have hcs := count_set hoi
            have hsn2 := snd_set hm hos hlt hoi hmt2
            have hbs := bls_set ou i true
            simp (disch := omega) [get_of l1, hgi, hov, atI hov, hbs]
            exact Rnd.mk' (i + 1, true, ou.set i true) (by simp only; omega) (by (repeat (first | exact km | refine kp rfl ?_ | refine km' rfl ?_))) (by simp (disch := omega)) ⟨by simp only; omega, by simpa using hol, hsn2, by simp only; omega, (fun _ => by simp only; omega), (fun hh => by cases hh), rfl⟩
    · have hi' : i = ws.length := by omega
      subst hi'
      simp (disch := omega)
      refine Rnd.mk' (more, ou) ?_ (by (repeat (first | exact km | refine kp rfl ?_ | refine km' rfl ?_))) (by simp (disch := omega)) ⟨hol, hos, hmf, rfl⟩
      have hcl2 : ou.count true ≤ ws.length := by rw [← hol]; exact List.count_le_length
      cases more with
      | false => simp [msr]; omega
      | true =>
        have := hmt rfl
        simp [msr]; omega
theorem l06Grown_does (v : Value) (ws : List (List UInt8)) (a n : Nat) (M : Mem) (R : Value → Mem → Prop) (hv : Rd M v (strs ws)) (hm : isMor ws = true) (hal : a < ws.length) (hn60 : n ≤ 60)
    (h : R (.tuple #[str (if grOk ws a then grF ws n n [ltr a] else []), .bool (grOk ws a)]) M) : Does Try.prog 142 [.agg #[v], .int .i64 a, .int .i64 n] M R := by
  have h15 := mor_len hm
  refine does_fn tab_ok Try.func142 rfl (by kernel_rfl) (by kernel_rfl) Try.ntmps142 Try.results142 rfl ?_
  obtain ⟨aa, c, rfl, ha⟩ := hv.opened
  rw [strs_length] at ha hv ⊢
  rcases ha with hz | ⟨b, o, rfl, ha⟩
  · omega
  have hg := ha a hal
  rw [strs_get, List.getElem?_eq_getElem hal] at hg
  have hgr : ws.getD a [] = ws[a] := by rw [List.getD_eq_getElem?_getD, List.getElem?_eq_getElem hal]; rfl
  rw [← hgr] at hg
  have hg : M.get? b (o + a) = some (str (ws.getD a [])) := hg
  have hrl := row_lt hm hal
  have hrow12 : (ws.getD a []).length ≤ 12 := by rw [hgr]; exact (mor_ok hm (List.getElem_mem hal)).1
  have hgrow := fun u hu hd => grow_len (u := u) hm hal hu hd
  have hok : grOk ws a = match ws.getD a [] with
    | [] => false
    | x :: u => x == ltr a && !u.all (dead ws ws.length) := rfl
  obtain ⟨row, hrow⟩ : ∃ row, row = ws.getD a [] := ⟨_, rfl⟩
  rw [← hrow] at hg hrl hrow12 hok
  have hrn := rune_ltr (i := a) (by omega)
  simp (disch := omega)
  intro b1 hb1
  have hs1 : Sub M (M.put b1 (.cells true [.slice (some ⟨b, o, none⟩) ws.length c] 1)) := (Sub.refl M).put hb1 _
  have hv1 := hv.put hb1 (.cells true [.slice (some ⟨b, o, none⟩) ws.length c] 1)
  have k1 : (M.put b1 (.cells true [.slice (some ⟨b, o, none⟩) ws.length c] 1)) b1 = some (.cells true [.slice (some ⟨b, o, none⟩) ws.length c] 1) := put_same _ _ _
  try simp (disch := omega)
  generalize M.put b1 (.cells true [.slice (some ⟨b, o, none⟩) ws.length c] 1) = N1 at *
  simp (disch := omega) [wrap_rune, hrn, sub_of k1]
  refine l06Mortal_does _ ws _ _ hv1 hm ?_
  intro b2 N2 hs2 k2
  have l1 := hs2 _ _ k1
  have hg2 := get_keep hg (hs1.trans hs2)
  have hv2 := hv1.sub hs2
  have hs := hs1.trans hs2
  cases row with
  | nil =>
    rw [hok] at h
    simp (disch := omega) [get_of l1, hg2]
    exact ret_sub hs h
  | cons x u =>
    by_cases hx : x = ltr a
    · subst hx
      simp only [beq_self_eq_true, Bool.true_and] at hok
      have hul : u.length ≤ 11 := by simp only [List.length_cons] at hrow12; omega
      simp (disch := omega) [get_of l1, hg2]
      refine loop_to tab_ok [9, 11, 34, 35, 36, 37, 38, 39, 40, 41, 42, 43, 44, 45, 46, 47, 48, 49, 50, 51, 52, 53, 54, 55, 56, 57, 58] (fun j : Nat => [(11, .int .i64 ((j : Int) + 1)), (9, .bool (!accD ws u j))]) (fun j M' => j ≤ u.length ∧ M' = N2) (fun j => u.length - j) 0 (by kernel_rfl) (by simp (disch := omega) [accD_zero]) ⟨Nat.zero_le _, rfl⟩ ?_
      rintro j M' g ⟨hj, rfl⟩
      by_cases hjl : j < u.length
      · have hat := accD_succ ws u hjl
        have hcl := hrl _ (List.mem_cons_of_mem _ (List.getElem_mem hjl))
        have hx1 : (ltr a :: u)[j + 1]? = some u[j] := by rw [List.getElem?_cons_succ, List.getElem?_eq_getElem hjl]
        have hdv := deadL_get hcl
        have hk : ((u[j].toNat : Int) - 97).toNat = u[j].toNat - 97 := by omega
        have hu := u[j].toNat_lt
        have hdl : (bls (deadL ws)).length = ws.length := by rw [bls_length, deadL_length]
        have ej : ((j : Int) + 1).toNat = j + 1 := by omega
        generalize dead ws ws.length u[j] = dv at *
        generalize accD ws u j = acc at *
        cases acc with
        | false =>
          simp (disch := omega) [get_of l1, hg2]
          exact Rnd.mk' (j + 1) (by omega) (by (repeat (first | exact km | refine kp rfl ?_ | refine km' rfl ?_))) (by simp (disch := omega) [hat]) ⟨by omega, rfl⟩
        | true =>
          simp (disch := omega) [get_of l1, hg2, hx1, hk, ej, get_of k2, hdv, atI hdv]
          exact Rnd.mk' (j + 1) (by omega) (by (repeat (first | exact km | refine kp rfl ?_ | refine km' rfl ?_))) (by simp (disch := omega) [hat]) ⟨by omega, rfl⟩
      · have hj' : j = u.length := by omega
        subst hj'
        rw [accD_all]
        cases hd : u.all (dead ws ws.length) with
        | true =>
          rw [hok, hd] at h
          simp (disch := omega) [get_of l1, hg2]
          exact ret_sub hs h
        | false =>
          rw [hok, hd] at h
          simp only [Bool.not_false, if_true] at h
          have hgl := hgrow u hrow.symm hd
          simp (disch := omega) [get_of l1, hg2]
          refine loop_to tab_ok [8, 61, 62, 63, 64, 65, 66, 67] (fun x : List UInt8 => [(8, str x)]) (fun x M1 => M1 = M' ∧ x.length ≤ 720 ∧ ∃ j f, x = itr ws j [ltr a] ∧ n ≤ x.length + f ∧ grF ws n f x = grF ws n n [ltr a]) (fun x => n - x.length) [ltr a] (by kernel_rfl) (by simp (disch := omega)) ⟨rfl, by simp, 0, n, rfl, by omega, rfl⟩ ?_
          rintro x M1 g1 ⟨rfl, hxl, j, f, hx, hnf, he⟩
          have hxt : Lt ws x := by
            rw [hx]
            exact itr_lt hm (fun c hc => by rw [List.mem_singleton.1 hc, ltr_toNat (by omega)]; omega) j
          have hlj := hgl j
          have hnx : imgOf ws x = itr ws (j + 1) [ltr a] := by rw [hx]; rfl
          rw [← hnx, ← hx] at hlj
          by_cases hlt : x.length < n
          · obtain ⟨f, rfl⟩ : ∃ f', f = f' + 1 := ⟨f - 1, by omega⟩
            have he2 : grF ws n (f + 1) x = grF ws n f (imgOf ws x) := if_pos hlt
            have hil := img_len hm hxt
            simp (disch := omega) [sub_of l1, get_of l1]
            refine l06Image_does _ ws x _ _ hv2 hm (by omega) hxt ?_
            simp (disch := omega)
            exact Rnd.mk' (imgOf ws x) (by omega) (by (repeat (first | exact km | refine kp rfl ?_ | refine km' rfl ?_))) (by simp (disch := omega)) ⟨rfl, by omega, ⟨j + 1, hnx⟩, f, by omega, by rw [← he2]; exact he⟩
          · rw [grF_end hlt] at he
            rw [← he] at h
            simp (disch := omega)
            exact ret_sub hs h
    · have e4 : (x == ltr a) = false := beq_eq_false_iff_ne.2 hx
      simp only [e4, Bool.false_and] at hok
      rw [hok] at h
      simp (disch := omega) [get_of l1, hg2, hx, e4]
      exact ret_sub hs h
theorem spec_GrownWord (v : Value) (ws : List (List UInt8)) (a n : Int) (M : Mem) (R : Value → Mem → Prop) (hv : Rd M v (strs ws)) (hf : Fine ws) (hn : ws.length ≤ 1099511627776) (h : R (tup2 (str (grT ws a n)) (grC ws a n)) M) : Does Try.prog 55 [.agg #[v], .int .i64 a, .int .i64 n] M R := by
  refine does_fn tab_ok Try.func55 rfl (by kernel_rfl) (by kernel_rfl) Try.ntmps55 Try.results55 rfl ?_
  obtain ⟨aa, c, rfl, ha⟩ := hv.opened
  rw [strs_length] at ha hv ⊢
  simp (disch := omega)
  intro b3 hb3
  have hs3 : Sub M (M.put b3 (.cells true [.slice aa ws.length c] 1)) := (Sub.refl M).put hb3 _
  have hv3 := hv.put hb3 (.cells true [.slice aa ws.length c] 1)
  have k3 : (M.put b3 (.cells true [.slice aa ws.length c] 1)) b3 = some (.cells true [.slice aa ws.length c] 1) := put_same _ _ _
  simp (disch := omega)
  generalize M.put b3 (.cells true [.slice aa ws.length c] 1) = N1 at *
  refine l06Letter_does _ ws a _ _ hv3 hf hn ?_
  have hin := codeL_in ws a n 60
  unfold grT grC at h
  by_cases ht : codeT ws a = 0
  · rw [if_pos ht] at hin
    rw [ht]
    simp (disch := omega)
    refine l01In_does _ _ _ _ _ ?_
    by_cases hk : 0 ≤ n ∧ n ≤ 60
    · rw [if_pos hk] at hin
      rw [decide_eq_true hk]
      obtain ⟨hm, ha0, ha1, hk0, hk1⟩ := codeL_zero hin
      rw [if_pos hin, if_pos hin] at h
      obtain ⟨a, rfl⟩ : ∃ m : Nat, a = m := ⟨a.toNat, by omega⟩
      obtain ⟨n, rfl⟩ : ∃ m : Nat, n = m := ⟨n.toNat, by omega⟩
      rw [Int.toNat_natCast, Int.toNat_natCast] at h
      simp (disch := omega) [sub_of k3]
      refine l06Grown_does _ ws a n _ _ hv3 hm (by omega) (by omega) ?_
      cases hok : grOk ws a with
      | true =>
        rw [hok] at h
        simp only [if_true] at h ⊢
        simp (disch := omega)
        exact ret_sub hs3 h
      | false =>
        rw [hok] at h
        simp (disch := omega)
        exact ret_sub hs3 h
    · rw [if_neg hk] at hin
      rw [decide_eq_false hk]
      rw [hin] at h
      simp (disch := omega)
      exact ret_sub hs3 h
  · rw [if_neg ht] at hin
    rw [hin, if_neg ht, if_neg ht] at h
    have hb : (codeT ws a == 0) = false := beq_eq_false_iff_ne.2 ht
    generalize codeT ws a = code at *
    simp (disch := omega) [hb, ht]
    exact ret_sub hs3 h
end Go.Proofs.Ytbefijbmgmbphaa
