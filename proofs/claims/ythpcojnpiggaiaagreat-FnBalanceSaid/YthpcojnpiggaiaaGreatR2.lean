/- From a call's contract to what a row asks of a law: a list of bytes, opened. -/
import Derived.Test.YthpcojnpiggaiaaGreatR
namespace Go.Proofs.YthpcojnpiggaiaaGreat
open Go Go.RowKit Go.ChangeShapes
theorem rd_bytes {W : World} {x : Addr} {len cap : Nat} {zs : List Int} (hle : len ≤ cap) (hz : zs.length = cap) (h : ∀ i, i < zs.length → W.cell? (x.add i) = some (.int .u8 (zs.getD i 0))) (hwz : ∀ n ∈ zs, (Lit.int .u8 n).wf = true) : Rd (reads W) (.slice (some x) len cap) (bytesV ((zs.take len).map fun n => UInt8.ofNat n.toNat)) := by
  refine rd_cells (by rw [bytesV_length, List.length_map, List.length_take]; omega) hle fun i hi => ?_
  have hi' : i < zs.length := by omega
  have hw := hwz _ (List.getElem_mem hi')
  simp only [Lit.wf, Bool.and_eq_true, decide_eq_true_eq] at hw
  have h1 : IntKind.u8.min = 0 := by decide
  have h2 : IntKind.u8.max = 255 := by decide
  rw [h1, h2] at hw
  rw [h i hi', List.getD_eq_getElem?_getD, List.getElem?_eq_getElem hi']
  unfold bytesV
  rw [List.getElem?_map, List.getElem?_map, List.getElem?_take_of_lt hi, List.getElem?_eq_getElem hi']
  simp only [Option.getD_some, Option.map_some, Option.some.injEq, Value.int.injEq, true_and]
  rw [UInt8.toNat_ofNat_of_lt' (by show zs[i].toNat < 256; omega)]
  omega
/-- A list of bytes, opened. -/
theorem open_bytes {P : Program} {H : Type} {enc : TypeId × Value → H} {W : World} {b0 : Nat} {t e : TypeId} {v : Value} {d : DataW H} {p : List MemPlace} (ht : P.underlying t = some (.slice e)) (he : P.underlying e = some (.int .u8)) (hc : P.cellsOf e = 1) (hv : Value.okWide P W .any b0 t v)
    (h : DataW.Trod enc P W 0 (fun _ => true) true t v d p) : ∃ xs : List UInt8, Rd (reads W) v (bytesV xs) ∧ xs.length ≤ 9223372036854775807 := by
  obtain ⟨a, len, cap, rfl⟩ := Go.WideShapes.okWide_slice ht hv
  obtain ⟨fuel, h⟩ := h
  rcases open_ints ht he hc h with ⟨h1, _⟩ | ⟨x, l, c, zs, h1, _, hl, hm, hz, _, hcell, hwz⟩
  · simp [Value.cells] at h1
    obtain ⟨rfl, rfl, rfl⟩ := h1
    exact ⟨[], rd_none W, by simp⟩
  · simp [Value.cells] at h1
    obtain ⟨rfl, rfl, rfl⟩ := h1
    simp only [if_true] at hz
    have hml : maxLen ≤ 9223372036854775807 := by decide
    refine ⟨(zs.take len).map fun n => UInt8.ofNat n.toNat, rd_bytes hl hz hcell hwz, by rw [List.length_map, List.length_take]; omega⟩
end Go.Proofs.YthpcojnpiggaiaaGreat
