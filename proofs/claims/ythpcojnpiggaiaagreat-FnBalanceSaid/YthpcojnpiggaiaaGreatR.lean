/- From a call's contract to what a row asks of a law: it returns true and leaves all that was there as it was. -/
import Derived.Test.YthpcojnpiggaiaaGreatCA
import Derived.Below
import Derived.SliceStrings
import Derived.ChangeSame
import Derived.WideShapes
import Derived.Deep.Strs
namespace Go.Proofs.YthpcojnpiggaiaaGreat
open Go Go.RowKit Go.ChangeShapes
/-- Nothing is told. -/
def nothing : Mem := fun _ => none
theorem top_of {P : Program} {f : FuncId} {args : List Value} {W : World} (h : Does P f args nothing (fun v _ => v = .bool true)) : Calls P f args.toArray W (fun e W' => e = .returned (.bool true) ∧ Below W.heap.size W W') := by
  refine (h.2 W (fun b B hb => by cases hb)).mono ?_
  rintro e W' ⟨v, M', rfl, _, hx, rfl⟩
  exact ⟨rfl, hx.os, hx.tape, hx.output, hx.size, fun k hk => hx.block k hk (fun ⟨B, hB, _⟩ => by cases hB)⟩
theorem top_read {P : Program} {f : FuncId} {args : List Value} {W : World} (M : Mem) (hM : Rep M W) (ho : ∀ b, ¬ owns M b) (h : Does P f args M (fun v _ => v = .bool true)) : Calls P f args.toArray W (fun e W' => e = .returned (.bool true) ∧ Below W.heap.size W W') := by
  refine (h.2 W hM).mono ?_
  rintro e W' ⟨v, M', rfl, _, hx, rfl⟩
  exact ⟨rfl, hx.os, hx.tape, hx.output, hx.size, fun k hk => hx.block k hk (ho k)⟩
/-- All blocks of a heap, to be read. -/
def reads (W : World) : Mem := fun b => match W.heap[b]? with
  | some (.cells c _ _) => some (.cells false c.toList c.size)
  | _ => none
theorem reads_rep (W : World) : Rep (reads W) W := by
  intro b B hB
  unfold reads at hB
  split at hB
  · rename_i c e fr hh
    injection hB with hB
    subst hB
    exact ⟨c, e, fr, hh, rfl, ⟨[], by simp⟩, fun h => by cases h⟩
  · cases hB
theorem reads_own (W : World) (b : Nat) : ¬ owns (reads W) b := by
  rintro ⟨B, hB, ho⟩
  unfold reads at hB
  split at hB
  · injection hB with hB
    subst hB
    cases ho
  · cases hB
theorem top_reads {P : Program} {f : FuncId} {args : List Value} {W : World} (h : Does P f args (reads W) (fun v _ => v = .bool true)) : Calls P f args.toArray W (fun e W' => e = .returned (.bool true) ∧ Below W.heap.size W W') :=
  top_read (reads W) (reads_rep W) (reads_own W) h
theorem rd_cells {W : World} {x : Addr} {len cap : Nat} {xs : List Value} (hl : xs.length = len) (hle : len ≤ cap) (h : ∀ i, i < len → W.cell? (x.add i) = xs[i]?) : Rd (reads W) (.slice (some x) len cap) xs := by
  subst hl
  by_cases h0 : xs.length = 0
  · rw [h0]; exact .inl ⟨_, _, rfl, List.eq_nil_of_length_eq_zero h0⟩
  · have hx : x.spot = none := by
      have h1 := h 0 (by omega)
      rw [List.getElem?_eq_getElem (by omega), Addr.add, if_pos rfl] at h1
      unfold World.cell? at h1
      split at h1
      · cases hs : x.spot with
        | none => rfl
        | some s => rw [hs] at h1; simp at h1
      · cases h1
    obtain ⟨b, o, sp⟩ := x
    simp only at hx
    subst hx
    have ha : ∀ i, (⟨b, o, none⟩ : Addr).add i = ⟨b, o + i, none⟩ := by
      intro i
      unfold Addr.add
      split
      · rename_i e; rw [e]; rfl
      · rfl
    simp only [ha] at h
    refine .inr ⟨b, o, cap, rfl, ?_, hle⟩
    have key : ∃ c e fr, W.heap[b]? = some (.cells c e fr) := by
      have h1 := h 0 (by omega)
      rw [List.getElem?_eq_getElem (by omega)] at h1
      unfold World.cell? at h1
      simp only [Option.isSome_none, Bool.false_eq_true, if_false] at h1
      split at h1
      · rename_i c e fr hh; exact ⟨c, e, fr, hh⟩
      · cases h1
    obtain ⟨c, e, fr, hh⟩ := key
    have hc : ∀ i, i < xs.length → c.toList[o + i]? = xs[i]? := by
      intro i hi
      have h1 := h i hi
      unfold World.cell? at h1
      simp only [Option.isSome_none, Bool.false_eq_true, if_false, hh] at h1
      rw [Array.getElem?_toList]
      exact h1
    have hm : reads W b = some (.cells false c.toList c.size) := by unfold reads; rw [hh]
    have hlen : o + xs.length ≤ c.toList.length := by
      have h1 := hc (xs.length - 1) (by omega)
      have h3 : xs.length - 1 < xs.length := by omega
      rw [List.getElem?_eq_getElem h3] at h1
      obtain ⟨h2, _⟩ := List.getElem?_eq_some_iff.1 h1
      omega
    unfold Mem.sub?
    rw [hm]
    simp only [if_pos hlen]
    congr 1
    apply List.ext_getElem?
    intro i
    by_cases hi : i < xs.length
    · rw [List.getElem?_take_of_lt hi, List.getElem?_drop, hc i hi]
    · rw [List.getElem?_eq_none (by rw [List.length_take]; omega), List.getElem?_eq_none (by omega)]
theorem rd_ints {W : World} {x : Addr} {len cap : Nat} {zs : List Int} (hle : len ≤ cap) (hz : zs.length = cap) (h : ∀ i, i < zs.length → W.cell? (x.add i) = some (.int .i64 (zs.getD i 0))) : Rd (reads W) (.slice (some x) len cap) (ints (zs.take len)) := by
  refine rd_cells (by rw [ints_length, List.length_take]; omega) hle fun i hi => ?_
  rw [h i (by omega), ints_get, List.getElem?_take_of_lt hi, List.getD_eq_getElem?_getD, List.getElem?_eq_getElem (by omega)]
  rfl
theorem rd_strs {W : World} {x : Addr} {len cap : Nat} {ss : List ByteArray} (hle : len ≤ cap) (hz : ss.length = cap) (h : ∀ i, i < ss.length → W.cell? (x.add i) = some (.string (ss.getD i ByteArray.empty))) : Rd (reads W) (.slice (some x) len cap) (strs ((ss.take len).map fun s => s.data.toList)) := by
  refine rd_cells (by rw [strs_length, List.length_map, List.length_take]; omega) hle fun i hi => ?_
  rw [h i (by omega), strs_get, List.getElem?_map, List.getElem?_take_of_lt hi, List.getD_eq_getElem?_getD, List.getElem?_eq_getElem (by omega)]
  rfl
theorem rd_none (W : World) : Rd (reads W) (.slice none 0 0) [] := .inl ⟨none, 0, rfl, rfl⟩
/-- A list of strings, opened. -/
theorem open_strs {P : Program} {H : Type} {enc : TypeId × Value → H} {W : World} {t e : TypeId} {fuel : Nat} {x : Value} {y : DataW H × List MemPlace} (ht : P.underlying t = some (.slice e)) (he : P.underlying e = some .string) (hc : P.cellsOf e = 1)
    (h : DataW.trod enc P W 0 (fun _ => true) true fuel t [x] = some y) : ∃ ws : List (List UInt8), Rd (reads W) x (strs ws) ∧ ws.length ≤ 9223372036854775807 ∧ ∀ w ∈ ws, w.length ≤ 9223372036854775807 := by
  rcases open_strings ht he hc h with ⟨h1, _⟩ | ⟨a, len, cap, ss, h1, _, hle, hm, hl, _, hcell, hss⟩
  · injection h1 with h1
    subst h1
    exact ⟨[], rd_none W, by simp, by simp⟩
  · injection h1 with h1
    subst h1
    simp only [if_true] at hl
    have hml : maxLen ≤ 9223372036854775807 := by decide
    refine ⟨(ss.take len).map fun s => s.data.toList, rd_strs hle hl hcell, ?_, ?_⟩
    · rw [List.length_map, List.length_take]; omega
    · intro w hw
      obtain ⟨s, hs, rfl⟩ := List.mem_map.1 hw
      exact Nat.le_trans (hss s (List.mem_of_mem_take hs)) hml
/-- A number that an int64 holds. -/
def I64 (n : Int) : Prop := -9223372036854775808 ≤ n ∧ n ≤ 9223372036854775807
theorem i64_of {n : Int} (h : (Lit.int .i64 n).wf = true) : I64 n := by
  simp only [Lit.wf, Bool.and_eq_true, decide_eq_true_eq] at h
  have h1 : IntKind.i64.min = -9223372036854775808 := by decide
  have h2 : IntKind.i64.max = 9223372036854775807 := by decide
  rw [h1, h2] at h
  unfold I64
  omega
/-- A list of numbers, opened. -/
theorem open_nums {P : Program} {H : Type} {enc : TypeId × Value → H} {W : World} {b0 : Nat} {t e : TypeId} {v : Value} {d : DataW H} {p : List MemPlace} (ht : P.underlying t = some (.slice e)) (he : P.underlying e = some (.int .i64)) (hc : P.cellsOf e = 1) (hv : Value.okWide P W .any b0 t v)
    (h : DataW.Trod enc P W 0 (fun _ => true) true t v d p) : ∃ zs : List Int, Rd (reads W) v (ints zs) ∧ zs.length ≤ 9223372036854775807 ∧ ∀ z ∈ zs, -9223372036854775808 ≤ z ∧ z ≤ 9223372036854775807 := by
  obtain ⟨a, len, cap, rfl⟩ := Go.WideShapes.okWide_slice ht hv
  obtain ⟨fuel, h⟩ := h
  rcases open_ints ht he hc h with ⟨h1, _⟩ | ⟨x, l, c, zs, h1, _, hl, hm, hz, _, hcell, hwz⟩
  · simp [Value.cells] at h1
    obtain ⟨rfl, rfl, rfl⟩ := h1
    exact ⟨[], rd_none W, by simp, by simp⟩
  · simp [Value.cells] at h1
    obtain ⟨rfl, rfl, rfl⟩ := h1
    simp only [if_true] at hz
    have hml : maxLen ≤ 9223372036854775807 := by decide
    refine ⟨zs.take len, rd_ints hl hz hcell, by rw [List.length_take]; omega, fun z hz' => ?_⟩
    exact i64_of (hwz z (List.mem_of_mem_take hz'))
/-- A morphism, opened. -/
theorem open_mor {P : Program} {H : Type} {enc : TypeId × Value → H} {W : World} {b0 : Nat} {t t2 e : TypeId} {f0 : Field} {v : Value} {d : DataW H} {p : List MemPlace} (hs : P.underlying t = some (.struct #[f0])) (hC : P.cellsOf t = 1) (hf : f0.type = t2) (ho : f0.offset = 0) (ht : P.underlying t2 = some (.slice e)) (hc2 : P.cellsOf t2 = 1)
    (he : P.underlying e = some .string) (hc : P.cellsOf e = 1) (hv : Value.okWide P W .any b0 t v) (h : DataW.Trod enc P W 0 (fun _ => true) true t v d p) :
    ∃ (x : Value) (ws : List (List UInt8)), v = .agg #[x] ∧ Rd (reads W) x (strs ws) ∧ ws.length ≤ 9223372036854775807 ∧ ∀ w ∈ ws, w.length ≤ 9223372036854775807 := by
  simp only [Value.okWide, hs] at hv
  obtain ⟨cs, rfl, hsz, _⟩ := hv
  rw [hC] at hsz
  obtain ⟨x, rfl⟩ : ∃ x, cs = #[x] := by
    obtain ⟨l⟩ := cs
    match l, hsz with
    | [x], _ => exact ⟨x, rfl⟩
  obtain ⟨fuel, h⟩ := h
  obtain ⟨y0, n, _, _, h2⟩ := trod_struct1 hs h
  rw [ho, hf, hc2] at h2
  obtain ⟨ws, k1, k2, k3⟩ := open_strs ht he hc (x := x) (by simpa [Value.cells] using h2)
  exact ⟨x, ws, rfl, k1, k2, k3⟩
/-- A desk, opened. -/
theorem open_desk {P : Program} {H : Type} {enc : TypeId × Value → H} {W : World} {b0 : Nat} {t t1 t2 e g : TypeId} {f0 f1 f2 m0 : Field} {v : Value} {d : DataW H} {p : List MemPlace} (hs : P.underlying t = some (.struct #[f0, f1, f2])) (hC : P.cellsOf t = 3)
    (q0 : f0.type = g ∧ f0.offset = 0) (q1 : f1.type = g ∧ f1.offset = 1) (q2 : f2.type = t1 ∧ f2.offset = 2) (hg : P.underlying g = some .string) (hgc : P.cellsOf g = 1)
    (hm : P.underlying t1 = some (.struct #[m0])) (hmc : P.cellsOf t1 = 1) (qm : m0.type = t2 ∧ m0.offset = 0) (ht : P.underlying t2 = some (.slice e)) (hc2 : P.cellsOf t2 = 1)
    (he : P.underlying e = some .string) (hc : P.cellsOf e = 1) (hv : Value.okWide P W .any b0 t v) (h : DataW.Trod enc P W 0 (fun _ => true) true t v d p) :
    ∃ (l k : List UInt8) (x : Value) (ws : List (List UInt8)), v = .agg #[str l, str k, x] ∧ l.length ≤ 9223372036854775807 ∧ k.length ≤ 9223372036854775807 ∧ Rd (reads W) x (strs ws) ∧ ws.length ≤ 9223372036854775807 ∧ ∀ w ∈ ws, w.length ≤ 9223372036854775807 := by
  simp only [Value.okWide, hs] at hv
  obtain ⟨cs, rfl, hsz, _⟩ := hv
  rw [hC] at hsz
  obtain ⟨x0, x1, x2, rfl⟩ : ∃ x0 x1 x2, cs = #[x0, x1, x2] := by
    obtain ⟨l⟩ := cs
    match l, hsz with
    | [x0, x1, x2], _ => exact ⟨x0, x1, x2, rfl⟩
  obtain ⟨fuel, h⟩ := h
  obtain ⟨y0, y1, y2, n, _, _, h0, h1, h2⟩ := Go.Deep.trod_struct3 hs h
  rw [q0.1, q0.2, hgc] at h0
  rw [q1.1, q1.2, hgc] at h1
  rw [q2.1, q2.2, hmc] at h2
  have hml : maxLen ≤ 9223372036854775807 := by decide
  obtain ⟨s0, e0, _, z0⟩ := DataW.trod_string hg h0
  obtain ⟨s1, e1, _, z1⟩ := DataW.trod_string hg h1
  obtain ⟨y, n', _, _, h3⟩ := trod_struct1 hm h2
  rw [qm.1, qm.2, hc2] at h3
  obtain ⟨ws, k1, k2, k3⟩ := open_strs ht he hc (x := x2) (by simpa [Value.cells] using h3)
  simp [Value.cells] at e0 e1
  subst e0
  subst e1
  exact ⟨s0.data.toList, s1.data.toList, x2, ws, rfl, Nat.le_trans z0 hml, Nat.le_trans z1 hml, k1, k2, k3⟩
end Go.Proofs.YthpcojnpiggaiaaGreat
