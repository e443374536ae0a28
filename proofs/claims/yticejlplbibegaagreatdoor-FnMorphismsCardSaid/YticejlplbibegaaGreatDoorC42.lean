/- Contracts: first places of patterns, of the reference, and the law. -/
import Derived.Test.YticejlplbibegaaGreatDoorC41
namespace Go.Proofs.YticejlplbibegaaGreatDoor
open Go
set_option linter.unusedSimpArgs false
set_option linter.unusedVariables false

theorem gvF_snoc {w : List UInt8} {ls : List Nat} {p : List UInt8} {V : Vals} {t i : Nat} (hi : i < p.length) : gvF w ls (p.take (i + 1)) V t = gvS w ls (gvF w ls (p.take i) V t) p[i] := by
  unfold gvF
  rw [take_snoc p hi, List.foldl_append]; rfl
theorem gvF_dead {w : List UInt8} {ls : List Nat} {p : List UInt8} {V : Vals} {t i : Nat} (h : gvF w ls (p.take i) V t = none) : gvF w ls p V t = none := by
  have e : gvF w ls p V t = (p.drop i).foldl (gvS w ls) (gvF w ls (p.take i) V t) := by
    unfold gvF
    rw [← List.foldl_append, List.take_append_drop]
  rw [e, h, gv_none]
theorem fill_snoc {V : Vals} {j : Nat} (hj : j < V.length) : fillV (V.take (j + 1)) = fillV (V.take j) ++ if V[j].isEmpty then [] else [V[j]] := by
  unfold fillV
  rw [take_snoc V hj, List.filter_append]
  cases h : V[j].isEmpty <;> simp [h]
theorem getD_at {V : Vals} {j : Nat} (hj : j < V.length) : V.getD j [] = V[j] := by
  rw [List.getD_eq_getElem?_getD, List.getElem?_eq_getElem hj]; rfl
theorem natsV_at {ls : List Nat} {k : Nat} (hk : k < ls.length) : (natsV ls)[k]? = some (.int .i64 (ls.getD k 0 : Nat)) := by
  rw [natsV_get, List.getElem?_eq_getElem hk, List.getD_eq_getElem?_getD, List.getElem?_eq_getElem hk]; rfl
def Low (ls : List Nat) : Prop := ∀ k, ls.getD k 0 ≤ 60
theorem sumV_snoc {p : List UInt8} {ls : List Nat} {i : Nat} (hi : i < p.length) : sumV (p.take (i + 1)) ls = sumV (p.take i) ls + ls.getD (vIdx p[i]) 0 := by
  unfold sumV
  rw [take_snoc p hi, List.map_append, List.sum_append]
  simp
theorem cntV_snoc {p : List UInt8} {k i : Nat} (hi : i < p.length) : cntV (p.take (i + 1)) k = cntV (p.take i) k + if vIdx p[i] = k then 1 else 0 := by
  unfold cntV
  rw [take_snoc p hi, List.countP_append, List.countP_singleton]
  simp
theorem sumV_le {ls : List Nat} (h : Low ls) : ∀ p : List UInt8, sumV p ls ≤ 60 * p.length
  | [] => by simp [sumV]
  | c :: p => by
    have ih := sumV_le h p
    have h1 := h (vIdx c)
    have e : sumV (c :: p) ls = ls.getD (vIdx c) 0 + sumV p ls := by simp [sumV]
    rw [e, List.length_cons]
    omega
theorem cntV_le (p : List UInt8) (k : Nat) : cntV p k ≤ p.length := List.countP_le_length
theorem low_snoc {ls : List Nat} (h : Low ls) {n : Nat} (hn : n ≤ 60) : Low (ls ++ [n]) := by
  intro k
  rw [List.getD_eq_getElem?_getD]
  by_cases hk : k < ls.length
  · rw [List.getElem?_append_left hk, ← List.getD_eq_getElem?_getD]; exact h k
  · rw [List.getElem?_append_right (by omega)]
    cases hq : ([n] : List Nat)[k - ls.length]? with
    | none => simp
    | some x =>
      have := List.mem_of_getElem? hq
      rw [List.mem_singleton.1 this]; exact hn
theorem low_nil : Low [] := fun k => by simp
theorem natsV_flat (ls : List Nat) : ∀ v ∈ natsV ls, flatV v = true := by
  intro v hv
  obtain ⟨n, _, rfl⟩ := List.mem_map.1 hv
  rfl
theorem getD_over {ls : List Nat} {k : Nat} (h : ls.length ≤ k) : ls.getD k 0 = 0 := by
  rw [List.getD_eq_getElem?_getD, List.getElem?_eq_none h]; rfl
def srchTo (w p : List UInt8) (d : Nat) (ls : List Nat) (m : Nat) : Option Vals := (List.range m).findSome? fun n => srch w p d (ls ++ [n + 1])
theorem srchTo_succ {w p : List UInt8} {d m : Nat} {ls : List Nat} (h : srchTo w p d ls m = none) : srchTo w p d ls (m + 1) = srch w p d (ls ++ [m + 1]) := by
  unfold srchTo at *
  rw [List.range_succ, List.findSome?_append, h, Option.none_or]
  cases hf : srch w p d (ls ++ [m + 1]) <;> simp [List.findSome?, hf]
theorem srchTo_hit {w p : List UInt8} {d m n : Nat} {ls : List Nat} {V : Vals} (hm : m < n) (h0 : srchTo w p d ls m = none) (h : srch w p d (ls ++ [m + 1]) = some V) : srchTo w p d ls n = some V := by
  have h1 : srchTo w p d ls (m + 1) = some V := by rw [srchTo_succ h0, h]
  obtain ⟨e, rfl⟩ : ∃ e, n = m + 1 + e := ⟨n - m - 1, by omega⟩
  unfold srchTo at *
  rw [List.range_add, List.findSome?_append, h1, Option.some_or]
theorem srcOf_sub {M N : Mem} {v : Value} {l : List Value} (h : srcOf M v = some l) (hs : Sub M N) : srcOf N v = some l := by
  unfold srcOf at *
  split at h
  · exact h
  · rename_i b o n c
    show N.sub? b o n = some l
    unfold Mem.sub? at *
    split at h
    · rename_i hb; rw [hs _ _ hb]; exact h
    · cases h
  · exact h
  · cases h
theorem natL_snoc (ls : List Nat) (n : Nat) : natsV ls ++ [.int .i64 (n : Nat)] = natsV (ls ++ [n]) := by simp [natsV]
theorem plL_len (w p : List UInt8) : (plL w p).length ≤ 3 := by
  unfold plL
  split
  · rename_i hb
    cases hq : placeF w p with
    | none => simp
    | some x =>
      simp only
      unfold placeF placeTo at hq
      obtain ⟨i, _, hq⟩ := List.exists_of_findSome?_eq_some hq
      unfold placeAt at hq
      split at hq
      · injection hq with hq
        subst hq
        rw [Bool.and_eq_true] at hb
        obtain ⟨hp1, hp8, hpv⟩ := isPat_in hb.2
        have hpi : ∀ c ∈ p, vIdx c < 3 := fun c hc => by
          have := isV_range (List.all_eq_true.1 hpv c hc)
          unfold vIdx; omega
        rename_i h0
        rcases best_is (u := w.drop i) hpi (by intro e; rw [e] at hp1; simp at hp1) with ⟨hz, _⟩ | ⟨_, _, _, _, hs⟩
        · omega
        · have ok := srch_is ((w.drop i).take (bestF (sols (w.drop i) p V0 0)).1) p hpi 3 [] rfl (fun k hk => by simp at hk)
          rw [hs] at ok
          have hl3 := ok.1.len
          unfold fillV
          exact Nat.le_trans (List.length_filter_le _ _) (Nat.le_of_eq hl3)
      · cases hq
  · simp
end Go.Proofs.YticejlplbibegaaGreatDoor
