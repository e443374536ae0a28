/- Contracts: grown words. -/
import Derived.Test.YtbefijbmgmbphaaM8
import Derived.Test.YtbefijbmgmbphaaC24
import Derived.Test.YtbefijbmgmbphaaE11
import Derived.Test.YtbefijbmgmbphaaC21
namespace Go.Proofs.Ytbefijbmgmbphaa
open Go Go.RowKit
set_option linter.unusedSimpArgs false
set_option linter.unusedVariables false

theorem index_mem (s : List UInt8) (c : UInt8) : decide (0 ≤ Lib.indexByte s c) = decide (c ∈ s) := by
  have hge := Lib.indexByte_ge s c
  by_cases h : Lib.indexByte s c = -1
  · have hn : ¬ c ∈ s := fun hm => by
      obtain ⟨k, hk, he⟩ := List.mem_iff_getElem.1 hm
      exact Lib.indexByte_none h k (by rw [List.getElem?_eq_getElem hk, he])
    rw [h, decide_eq_false hn]; rfl
  · obtain ⟨o, ho⟩ : ∃ o : Nat, Lib.indexByte s c = o := ⟨(Lib.indexByte s c).toNat, by omega⟩
    have hm := List.mem_of_getElem? (Lib.indexByte_some ho).1
    rw [decide_eq_true hm, ho]
    exact decide_eq_true (by omega)
theorem contains1_does (s : List UInt8) (c : UInt8) (M : Mem) (R : Value → Mem → Prop) (h : R (.bool (decide (c ∈ s))) M) : Does Try.prog 198 [str s, str [c]] M R := by
  refine does_below (.bool (decide (c ∈ s))) ⟨_, Try.func198, by kernel_rfl, by kernel_rfl⟩ (fun w hw => ?_) h
  refine (Try.strings_Contains_one ⟨⟨s⟩⟩ c w).mono fun e w' ⟨h1, h2⟩ => ⟨?_, by rw [h2]; exact Below.refl _ _⟩
  rw [h1, ← index_mem]
theorem cutPrefix_does (s p : List UInt8) (M : Mem) (R : Value → Mem → Prop) (h : R (.tuple #[str (Lib.trimPrefix s p), .bool (Lib.hasPrefix s p)]) M) : Does Try.prog 139 [str s, str p] M R := by
  refine does_below (.tuple #[str (Lib.trimPrefix s p), .bool (Lib.hasPrefix s p)]) ⟨_, Try.func139, by kernel_rfl, by kernel_rfl⟩ (fun w hw => ?_) h
  refine (Try.strings_CutPrefix ⟨⟨s⟩⟩ ⟨⟨p⟩⟩ w).mono fun e w' ⟨h1, h2⟩ => ⟨?_, by rw [h2]; exact Below.refl _ _⟩
  rw [h1]; rfl
theorem vanishes_does (v : Value) (ws : List (List UInt8)) (w : List UInt8) (M : Mem) (R : Value → Mem → Prop) (hv : Rd M v (strs ws)) (hm : isMor ws = true) (hl : w.length ≤ 60) (hlt : Lt ws w) (h : R (.bool (w.all (dead ws ws.length))) M) : Does Try.prog 140 [.agg #[v], str w] M R := by
  have h15 := mor_len hm
  refine does_fn tab_ok Try.func140 rfl (by kernel_rfl) (by kernel_rfl) Try.ntmps140 Try.results140 rfl ?_
  obtain ⟨a, c, rfl, ha⟩ := hv.opened
  rw [strs_length] at hv ⊢
  simp (disch := omega)
  intro b1 hb1
  have hs1 : Sub M (M.put b1 (.cells true [.slice a ws.length c] 1)) := (Sub.refl M).put hb1 _
  have hv1 := hv.put hb1 (.cells true [.slice a ws.length c] 1)
  have k1 : (M.put b1 (.cells true [.slice a ws.length c] 1)) b1 = some (.cells true [.slice a ws.length c] 1) := put_same _ _ _
  simp (disch := omega)
  generalize M.put b1 (.cells true [.slice a ws.length c] 1) = N at *
  refine lettersM_does _ ws _ _ hv1 (by omega) ?_
  simp (disch := omega)
  refine loop_to tab_ok [5, 6, 7, 11, 12, 13, 14, 15, 16, 17, 18, 19, 20, 21, 22, 23, 24, 25, 26, 27, 28, 29, 30] (fun r : Nat => [(11, .int .i64 r), (5, str (kepS ws r w))]) (fun r M' => r ≤ ws.length ∧ M' = N) (fun r => ws.length - r) 0 (by kernel_rfl) (by simp (disch := omega); rfl) ⟨Nat.zero_le _, rfl⟩ ?_
  rintro r M' g ⟨hr, rfl⟩
  by_cases hlt1 : r < ws.length
  · have hkl := kepS_len hm hl r
    have hkt := kepS_lt hm hlt r
    have hks : kepS ws (r + 1) w = presT ws (kepS ws r w) ws.length := rfl
    generalize kepS ws r w = x at *
    simp (disch := omega) [sub_of k1]
    refine lettersM_does _ ws _ _ hv1 (by omega) ?_
    simp (disch := omega)
    refine loop_to tab_ok [6, 7, 15, 16, 17, 18, 19, 20, 21, 22, 23, 24, 25, 26, 27, 28] (fun i : Nat => [(15, .int .i64 i), (6, str (presT ws x i))]) (fun i M1 => i ≤ ws.length ∧ M1 = M') (fun i => ws.length - i) 0 (by kernel_rfl) (by simp (disch := omega); rfl) ⟨Nat.zero_le _, rfl⟩ ?_
    rintro i M1 g1 ⟨hi, rfl⟩
    by_cases hlt2 : i < ws.length
    · have hps := presT_succ ws x i
      have hpl := presT_len ws x i
      generalize presT ws x i = y at *
      simp (disch := omega) [sub_of k1]
      refine image_does _ ws x _ _ hv1 hm hkl hkt ?_
      simp (disch := omega)
      refine letterN_does i _ _ (by omega) ?_
      simp (disch := omega)
      refine contains1_does _ _ _ _ ?_
      by_cases hc : ltr i ∈ imgOf ws x
      · rw [if_pos hc] at hps
        rw [decide_eq_true hc]
        simp (disch := omega)
        refine letterN_does i _ _ (by omega) ?_
        simp (disch := omega)
        exact Rnd.mk' (i + 1) (by omega) (by (repeat (first | exact km | refine kp rfl ?_ | refine km' rfl ?_))) (by simp (disch := omega) [hps]) ⟨by omega, rfl⟩
      · rw [if_neg hc, List.append_nil] at hps
        rw [decide_eq_false hc]
        simp (disch := omega)
        exact Rnd.mk' (i + 1) (by omega) (by (repeat (first | exact km | refine kp rfl ?_ | refine km' rfl ?_))) (by simp (disch := omega) [hps]) ⟨by omega, rfl⟩
    · have hi' : i = ws.length := by omega
      subst hi'
      rw [← hks]
      simp (disch := omega)
      exact Rnd.mk' (r + 1) (by omega) (by (repeat (first | exact km | refine kp rfl ?_ | refine km' rfl ?_))) (by simp (disch := omega)) ⟨by omega, rfl⟩
  · have hr' : r = ws.length := by omega
    subst hr'
    have he := kepS_nil hm hlt ws.length
    rw [← he] at h
    generalize kepS ws ws.length w = x at *
    cases x with
    | nil => simp (disch := omega); exact ret_sub hs1 h
    | cons y l => simp (disch := omega); exact ret_sub hs1 h
theorem ltr_take (a i : Nat) (h : i < 1) : ([ltr a] : List UInt8).take (i + 1) = ([ltr a] : List UInt8).take i ++ [ltr a] := by
  have : i = 0 := by omega
  subst this; rfl
theorem wordOf1_does (a b c : Nat) (M : Mem) (R : Value → Mem → Prop) (ha : a ≤ 4) (hM : M b = some (.cells true [.int .i64 a] c)) (h : R (str [ltr a]) M) : Does Try.prog 138 [.slice (some ⟨b, 0, none⟩) 1 c] M R := by
  refine does_fn tab_ok Try.func138 rfl (by kernel_rfl) (by kernel_rfl) Try.ntmps138 Try.results138 rfl ?_
  simp (disch := omega)
  refine loop_to tab_ok [3, 5, 8, 9, 10, 11, 12, 13, 14, 15, 16] (fun i : Nat => [(8, .int .i64 i), (3, str (([ltr a] : List UInt8).take i))]) (fun i M' => i ≤ 1 ∧ M' = M) (fun i => 1 - i) 0 (by kernel_rfl) (by simp (disch := omega)) ⟨Nat.zero_le _, rfl⟩ ?_
  rintro i M' g ⟨hi, rfl⟩
  by_cases hlt : i < 1
  · have hi0 : i = 0 := by omega
    subst hi0
    simp (disch := omega) [get_of hM]
    refine letterN_does a _ _ ha ?_
    simp (disch := omega)
    exact Rnd.mk' 1 (by omega) (by (repeat (first | exact km | refine kp rfl ?_ | refine km' rfl ?_))) (by simp (disch := omega)) ⟨by omega, rfl⟩
  · have hi' : i = 1 := by omega
    subst hi'
    simp (disch := omega)
    exact ret_of h
theorem grownWord1_does (ws : List (List UInt8)) (x : Value) (a k : Int) (b3 b4 b5 : Nat) (K : Mem) (R : Value → Mem → Prop) (hv : Rd K x (strs ws)) (hn : ws.length ≤ 1099511627776) (k3 : K b3 = some (.cells true [x] 1)) (k4 : K b4 = some (.cells true [.int .i64 a] 1)) (k5 : K b5 = some (.cells true [.int .i64 k] 1))
    (h : R (.bool (decide (0 ≤ a ∧ a ≤ ws.length - 1) && decide (0 ≤ k ∧ k ≤ 60))) K) : Does Try.prog 137 [.pointer (some ⟨b4, 0, none⟩), .pointer (some ⟨b3, 0, none⟩), .pointer (some ⟨b5, 0, none⟩)] K R := by
  refine does_fn tab_ok Try.func137 rfl (by kernel_rfl) (by kernel_rfl) Try.ntmps137 Try.results137 rfl ?_
  simp (disch := omega)
  refine draw_to tab_ok (by kernel_rfl) (by kernel_rfl) (by rfl) ?_
  simp (disch := omega) [get_of k4, sub_of k3]
  refine vQCall_at (a := []) (c := []) (lettersM_does x ws _ _ hv hn ⟨rfl, rfl⟩) ?_
  simp (disch := omega)
  refine vQCall_at (a := []) (c := []) (within_does _ _ _ _ _ ⟨rfl, rfl⟩) ?_
  cases h1 : decide (0 ≤ a ∧ a ≤ (ws.length : Int) - 1)
  · rw [h1, Bool.false_and] at h
    simp (disch := omega)
    exact ret_of h
  · rw [h1, Bool.true_and] at h
    simp (disch := omega) [get_of k5]
    refine vQCall_at (a := []) (c := []) (isLength_does _ _ _ ⟨rfl, rfl⟩) ?_
    simp (disch := omega)
    exact ret_of (by simpa using h)
/-- A word's images, until they have n letters. -/
def grF (ws : List (List UInt8)) (n : Nat) : Nat → List UInt8 → List UInt8
  | 0, x => x.take n
  | f + 1, x => if x.length < n then grF ws n f (imgOf ws x) else x.take n
theorem grF_end {ws : List (List UInt8)} {n f : Nat} {x : List UInt8} (h : ¬ x.length < n) : grF ws n f x = x.take n := by
  cases f with
  | zero => rfl
  | succ f => exact if_neg h
def grOk (ws : List (List UInt8)) (a : Nat) : Bool := match ws.getD a [] with
  | [] => false
  | x :: u => x == ltr a && !u.all (dead ws ws.length)
def grT (ws : List (List UInt8)) (a n : Int) : List UInt8 := if codeL ws a n 60 = 0 then (if grOk ws a.toNat then grF ws n.toNat n.toNat [ltr a.toNat] else []) else []
def grC (ws : List (List UInt8)) (a n : Int) : Int := if codeL ws a n 60 = 0 then (if grOk ws a.toNat then 0 else 5) else codeL ws a n 60
theorem impl_GrownWord (v : Value) (ws : List (List UInt8)) (a n : Int) (M : Mem) (R : Value → Mem → Prop) (hv : Rd M v (strs ws)) (hf : Fine ws) (hn : ws.length ≤ 1099511627776) (h : R (tup2 (str (grT ws a n)) (grC ws a n)) M) : Does Try.prog 54 [.agg #[v], .int .i64 a, .int .i64 n] M R := by
  refine does_fn tab_ok Try.func54 rfl (by kernel_rfl) (by kernel_rfl) Try.ntmps54 Try.results54 rfl ?_
  obtain ⟨aa, c, rfl, ha⟩ := hv.opened
  rw [strs_length] at ha hv ⊢
  simp (disch := omega)
  intro b3 hb3
  simp (disch := omega)
  intro b4 hb4
  simp (disch := omega)
  intro b5 hb5
  have n4 := hb4
  have n5 := hb5
  rw [put_none] at n4
  rw [put_none, put_none] at n5
  have hs5 : Sub M (((M.put b3 (.cells true [.slice aa ws.length c] 1)).put b4 (.cells true [.int .i64 a] 1)).put b5 (.cells true [.int .i64 n] 1)) := (((Sub.refl M).put hb3 _).putN hb4 _).putN hb5 _
  have k3 : (((M.put b3 (.cells true [.slice aa ws.length c] 1)).put b4 (.cells true [.int .i64 a] 1)).put b5 (.cells true [.int .i64 n] 1)) b3 = some (.cells true [.slice aa ws.length c] 1) := by rw [put_ne _ _ (Ne.symm n5.2.1), put_ne _ _ (Ne.symm n4.1), put_same]
  have k4 : (((M.put b3 (.cells true [.slice aa ws.length c] 1)).put b4 (.cells true [.int .i64 a] 1)).put b5 (.cells true [.int .i64 n] 1)) b4 = some (.cells true [.int .i64 a] 1) := by rw [put_ne _ _ (Ne.symm n5.1), put_same]
  have k5 : (((M.put b3 (.cells true [.slice aa ws.length c] 1)).put b4 (.cells true [.int .i64 a] 1)).put b5 (.cells true [.int .i64 n] 1)) b5 = some (.cells true [.int .i64 n] 1) := put_same _ _ _
  simp (disch := omega) [n4.1, Ne.symm n4.1, n5.1, Ne.symm n5.1, n5.2.1, Ne.symm n5.2.1]
  generalize (((M.put b3 (.cells true [.slice aa ws.length c] 1)).put b4 (.cells true [.int .i64 a] 1)).put b5 (.cells true [.int .i64 n] 1)) = N1 at *
  have hv1 := hv.sub hs5
  refine morphismCode_does _ _ _ ws [] (decide (0 ≤ a ∧ a ≤ (ws.length : Int) - 1) && decide (0 ≤ n ∧ n ≤ 60)) (fun M' => Sub N1 M') _ _ hv1 hf hn (rd_nil N1) fine0 (by simp) rfl (Sub.refl _) (fun M b B q hb => q.putN hb B) ?_ ?_
  · intro K R' q hR'
    simp (disch := omega)
    exact grownWord1_does ws _ a n b3 b4 b5 K R' (hv1.sub q) hn (q _ _ k3) (q _ _ k4) (q _ _ k5) hR'
  · rw [codeL_of]
    unfold grT grC at h
    by_cases h0 : codeL ws a n 60 = 0
    · obtain ⟨hm, ha0, ha1, hk0, hk1⟩ := codeL_zero h0
      rw [if_pos h0, if_pos h0] at h
      rw [h0]
      have h15 := mor_len hm
      obtain ⟨a, rfl⟩ : ∃ m : Nat, a = m := ⟨a.toNat, by omega⟩
      obtain ⟨n, rfl⟩ : ∃ m : Nat, n = m := ⟨n.toNat, by omega⟩
      rw [Int.toNat_natCast, Int.toNat_natCast] at h
      have hal : a < ws.length := by omega
      rcases ha with hz | ⟨b, o, rfl, ha⟩
      · omega
      have hg := ha a hal
      rw [strs_get, List.getElem?_eq_getElem hal] at hg
      have hgr : ws.getD a [] = ws[a] := by rw [List.getD_eq_getElem?_getD, List.getElem?_eq_getElem hal]; rfl
      rw [← hgr] at hg
      have hg1 : N1.get? b (o + a) = some (str (ws.getD a [])) := get_keep hg hs5
      have hrl := row_lt hm hal
      have hrow12 : (ws.getD a []).length ≤ 12 := by rw [hgr]; exact (mor_ok hm (List.getElem_mem hal)).1
      have hgrow := fun u hu hd => grow_len (u := u) hm hal hu hd
      have hok : grOk ws a = match ws.getD a [] with
        | [] => false
        | x :: u => x == ltr a && !u.all (dead ws ws.length) := rfl
      obtain ⟨row, hrow⟩ : ∃ row, row = ws.getD a [] := ⟨_, rfl⟩
      rw [← hrow] at hg1 hrl hrow12 hok
      simp (disch := omega) [get_of k4]
      intro b6 hb6
      simp (disch := omega)
      have s6 := (Sub.refl N1).put hb6 (.cells true [.int .i64 a] 1)
      refine wordOf1_does a b6 1 _ _ (by omega) (put_same _ _ _) ?_
      have j3 := s6 _ _ k3
      have j4 := s6 _ _ k4
      have j5 := s6 _ _ k5
      have hg6 := get_keep hg1 s6
      have hv6 := hv1.sub s6
      have hs6 := hs5.trans s6
      generalize N1.put b6 (.cells true [.int .i64 a] 1) = N6 at *
      simp (disch := omega) [sub_of j3, get_of j3, get_of j4, hg6]
      refine cutPrefix_does _ _ _ _ ?_
      cases row with
      | nil =>
        rw [hok] at h
        have e1 : Lib.hasPrefix [] [ltr a] = false := rfl
        simp (disch := omega) [e1]
        exact ret_sub hs6 h
      | cons x u =>
        have e1 : Lib.hasPrefix (x :: u) [ltr a] = (ltr a == x) := by simp [Lib.hasPrefix, List.isPrefixOf]
        by_cases hx : x = ltr a
        · subst hx
          have e2 : Lib.trimPrefix (ltr a :: u) [ltr a] = u := by simp [Lib.trimPrefix, Lib.hasPrefix]
          rw [beq_self_eq_true] at e1
          rw [e1, e2]
          simp only [beq_self_eq_true, Bool.true_and] at hok
          simp (disch := omega) [sub_of j3]
          refine vanishes_does _ ws u _ _ hv6 hm (by simp only [List.length_cons] at hrow12; omega) (fun c hc => hrl c (List.mem_cons_of_mem _ hc)) ?_
          cases hd : u.all (dead ws ws.length) with
          | true =>
            rw [hok, hd] at h
            simp (disch := omega)
            exact ret_sub hs6 h
          | false =>
            rw [hok, hd] at h
            simp only [Bool.not_false, if_true] at h
            have hgl := hgrow u hrow.symm hd
            simp (disch := omega)
            refine loop_to tab_ok [9, 38, 39, 40, 41, 42, 43, 44] (fun x : List UInt8 => [(9, str x)]) (fun x M' => M' = N6 ∧ x.length ≤ 720 ∧ ∃ j f, x = itr ws j [ltr a] ∧ n ≤ x.length + f ∧ grF ws n f x = grF ws n n [ltr a]) (fun x => n - x.length) [ltr a] (by kernel_rfl) (by simp (disch := omega)) ⟨rfl, by simp, 0, n, rfl, by omega, rfl⟩ ?_
            rintro x M' g ⟨rfl, hxl, j, f, hx, hnf, he⟩
            have hxt : Lt ws x := by
              rw [hx]
              exact itr_lt hm (fun c hc => by rw [List.mem_singleton.1 hc, ltr_toNat (by omega)]; omega) j
            have hlj := hgl j
            have hnx : imgOf ws x = itr ws (j + 1) [ltr a] := by rw [hx]; rfl
            rw [← hnx, ← hx] at hlj
            simp (disch := omega)
            refine draw_to tab_ok (by kernel_rfl) (by kernel_rfl) (by rfl) ?_
            simp (disch := omega) [get_of j5]
            refine vQCall_at (a := []) (c := []) (size_does _ _ _ (by omega) ⟨rfl, rfl⟩) ?_
            by_cases hlt : x.length < n
            · obtain ⟨f, rfl⟩ : ∃ f', f = f' + 1 := ⟨f - 1, by omega⟩
              have he2 : grF ws n (f + 1) x = grF ws n f (imgOf ws x) := if_pos hlt
              have hil := img_len hm hxt
              simp (disch := omega) [sub_of j3, get_of j5]
              refine image_does _ ws x _ _ hv6 hm (by omega) hxt ?_
              simp (disch := omega)
              exact Rnd.mk' (imgOf ws x) (by omega) (by (repeat (first | exact km | refine kp rfl ?_ | refine km' rfl ?_))) (by simp (disch := omega)) ⟨rfl, by omega, ⟨j + 1, hnx⟩, f, by omega, by rw [← he2]; exact he⟩
            · rw [grF_end hlt] at he
              rw [← he] at h
              simp (disch := omega) [get_of j5]
              exact ret_sub hs6 h
        · have e0 : (ltr a == x) = false := beq_eq_false_iff_ne.2 (Ne.symm hx)
          have e4 : (x == ltr a) = false := beq_eq_false_iff_ne.2 hx
          rw [e0] at e1
          simp only [e4, Bool.false_and] at hok
          rw [hok] at h
          generalize Lib.trimPrefix (x :: u) [ltr a] = tp
          simp (disch := omega) [e1]
          exact ret_sub hs6 h
    · rw [if_neg h0, if_neg h0] at h
      have hb : (codeL ws a n 60 == 0) = false := beq_eq_false_iff_ne.2 h0
      generalize codeL ws a n 60 = code at *
      simp (disch := omega) [hb, h0]
      exact ret_sub hs5 h
end Go.Proofs.Ytbefijbmgmbphaa
