/- Contracts: the bytes of a slice, collected by a range over a function: slices.Values, slices.AppendSeq, slices.Collect. -/
import Derived.RangeFuncGives
import Derived.RangeFuncBox
import Derived.RangeFuncLeaves
import Derived.Shelf.Abstract
import Derived.WalkKit
import Derived.OwnWalkIn
import Derived.TacticsInMore
import Derived.LoopNIn
import Derived.LoopIn
import Derived.Maps.AppendAt
import Derived.Test.YticejlplbibegaaC72
namespace Go.Proofs.Yticejlplbibegaa
open Go Go.RowKit Go.Maps Go.Shelf
set_option linter.unusedSimpArgs false
set_option linter.unusedVariables false

attribute [local go_sem] Oper.semAt_some
/-- What is told of the memory stands where all older blocks stand. -/
theorem told_lt8 {M : Mem} {w : World} (h : Rep M w) {b : Nat} {B : Blk} (hB : M b = some B) : b < w.heap.size := by
  have hold := h b B hB
  rcases Nat.lt_or_ge b w.heap.size with hlt | hge
  · exact hlt
  · cases B with
    | cells own xs tot => obtain ⟨c, e, fr, q, _⟩ := hold; rw [Array.getElem?_eq_none hge] at q; cases q
    | obj o => obtain ⟨q, _⟩ := hold; rw [Array.getElem?_eq_none hge] at q; cases q
theorem rep_below8 {M : Mem} {w w' : World} (h : Rep M w) (hb : Below w.heap.size w w') : Rep M w' := fun b B hB => Blk.holds_of (hb.block b (told_lt8 h hB)) (h b B hB)
abbrev enc8 (u : UInt8) : Value := .int .u8 u.toNat
set_option maxRecDepth 100000 in
set_option maxHeartbeats 2000000 in
/-- The closure of slices.Values at bytes: all bytes come, one after the other, whatever the loop's body does that keeps what lay below n₀. -/
theorem vals1_in (F : Fence) (n : Nat) (h7 : F.fn 57) (hro : F.round = none) (hn : 1 ≤ n) (l Bs n₀ b off len cap : Nat) (zs : List UInt8) (hreach : len ≤ 1000000) (hb : b < n₀) (J : List UInt8 → World → Prop)
    (hY : ∀ pre x W, J pre W → pre.length < len → YieldAt F (n - 1) Try.prog l #[enc8 x] W fun e W' => e = .returned (.bool true) ∧ J (pre ++ [x]) W' ∧ Below n₀ W W')
    (W : World) (hBs : W.cell? ⟨Bs, 0, none⟩ = some (.slice (some ⟨b, off, none⟩) len cap)) (hc : ∀ j, j < len → W.cell? ⟨b, off + j, none⟩ = some (enc8 (zs[j]?.getD 0))) (hlen : zs.length = len) (h0 : J [] W) :
    CallsIn F n Try.prog 57 #[.func (.yield l) #[] #[], .pointer (some ⟨Bs, 0, none⟩)] W fun e W' => (∃ v, e = .returned v) ∧ J zs W' := by
  refine callsIn_of_wp Try.func57 rfl h7 ?_ hro
  simp only [Try.ntmps57, List.size_toArray, List.length_cons, List.length_nil, Nat.reduceAdd, Nat.reduceSub, Array.replicate_succ, Array.replicate_zero, List.push_toArray, List.append_toArray, List.nil_append, List.cons_append]
  gi_wp2
  gi_loopw [7] (fun i wr => ∃ k : Nat, k ≤ len ∧ i = .int .i64 k ∧ J (zs.take k) wr ∧ Below n₀ W wr)
    (fun i _ => len - (intOf i).toNat)
  case atStart => exact ⟨0, Nat.zero_le _, rfl, h0, Below.refl _ _⟩
  case round =>
    obtain ⟨k, hk, rfl, hJs, hnx⟩ := hrel
    have hcx : k < len → wr.cell? ⟨b, off + k, none⟩ = some (enc8 (zs[k]?.getD 0)) := fun h => (hnx.cell (p := ⟨b, off + k, none⟩) hb).trans (hc k h)
    by_cases hlt : k < len
    · obtain ⟨fn, tmps, assign, body, hy, hR⟩ := hY _ (zs[k]?.getD 0) wr hJs (by rw [List.length_take]; omega)
      have hcx' := hcx hlt
      have htk : zs.take (k + 1) = zs.take k ++ [zs[k]?.getD 0] := by
        rw [take_snoc zs (by omega), List.getElem?_eq_getElem (by omega)]; rfl
      clear hcx
      generalize zs[k]?.getD 0 = x at *
      gi_wp2
      refine hR.mono ?_
      rintro e W3 ⟨rfl, hJ3, hk3⟩
      gi_wp2
      go_roundw
      case rel => exact ⟨k + 1, by omega, by simp, by rw [htk]; exact hJ3, hnx.trans hk3⟩
      case measure => simp [intOf]; omega
    · obtain rfl : k = len := by omega
      gi_wp2
      go_end0
      exact ⟨⟨_, rfl⟩, by rw [List.take_of_length_le (by omega)] at hJs; exact hJs⟩
def apAssign : Code := (Code.region 2 #[{ dst := some 5, op := Op.assign (Operand.tmp 7), type := 5, pos := "iter.go:51", after := #[], guard := none }] false)
def apBody : Code := (Code.block 1 (Code.region 3 #[{ dst := some 8, op := Op.load 25 (Operand.tmp 2), type := 25, pos := "iter.go:52", after := #[], guard := none }, { dst := some 9, op := Op.move (Operand.tmp 5), type := 5, pos := "iter.go:52", after := #[], guard := none }, { dst := some 10, op := Op.buildSlice 25 1 #[(0, Operand.tmp 9)], type := 25, pos := "iter.go:52", after := #[{ on := 1, ground := Ground.data }], guard := none }, { dst := some 11, op := Op.call { callee := Callee.builtin Builtin.append, args := #[Operand.tmp 8, Operand.tmp 10], argTypes := #[25, 25] }, type := 25, pos := "iter.go:52", after := #[{ on := 0, ground := Ground.data }, { on := 2, ground := Ground.data }], guard := none }, { dst := none, op := Op.store 25 (Operand.tmp 2) (Operand.tmp 11), type := 0, pos := "iter.go:52", after := #[{ on := 3, ground := Ground.data }, { on := 3, ground := Ground.chain }, { on := 0, ground := Ground.phase }, { on := 1, ground := Ground.phase }, { on := 2, ground := Ground.phase }, { on := 3, ground := Ground.phase }], guard := none }] false))
/-- The loop's record: slices.AppendSeq's temporaries as they stood at the entering: 's' boxed in block Bs; sv: the iterator's value. -/
def apRec (fn : FuncId) (sv : Value) (Bs D : Nat) (st : LoopState) (pend : Option Code) : Loop :=
  { state := st, pending := pend, fn, tmps := #[.slice none 0 0, sv, .pointer (some ⟨Bs, 0, none⟩), undef, .slice none 0 0, undef, sv, undef, undef, undef, undef, undef, undef], params := #[7], assign := apAssign, body := apBody, defers := D }
/-- Between two rounds: the box holds a slice that owns, in a block of the call's own, what has come so far; nothing that lay before the call has turned. -/
structure ApAt (w0 : World) (fn : FuncId) (sv : Value) (Bs l D : Nat) (ss : List UInt8) (W : World) : Prop where
  box : ∃ v, W.heap[Bs]? = some (.cells #[v] 25 (0, 0)) ∧ W.ownsRow w0.heap.size 5 1 v ss.length (ss.map enc8) ∧ (v = .slice none 0 0 ↔ ss = [])
  L : W.heap[l]? = some (.loop (apRec fn sv Bs D .ready none))
  K : W.heap[D]? = some (.deferred (some []))
  below : Below w0.heap.size w0 W
theorem grownBy_putObj8 (W : World) (l : Nat) (o : Obj) : W.grownBy (W.putObj l o) (some l) :=
  ⟨rfl, rfl, rfl, by simp, fun k _ hk => World.putObj_heap_other (fun e => hk (by rw [e]))⟩
theorem grownBy_setCell8 (W : World) (b : Nat) (v : Value) : W.grownBy (W.setCell ⟨b, 0, none⟩ v) (some b) :=
  ⟨rfl, rfl, rfl, (KeepsWalks.setCell W _ v).size, fun k _ hk => Below.heap_setCell _ _ _ k (fun e => hk (by rw [e]))⟩
theorem ownsRow_ne8 {W : World} {base : Nat} {e : TypeId} {size : Nat} {v : Value} {k : Nat} {xs : List Value} (h : W.ownsRow base e size v k xs) {j : Nat} {o : Obj} (hj : W.heap[j]? = some o) (hno : ∀ cur, o ≠ .cells cur e (0, 0)) :
    v.ownBlock = none ∨ v.ownBlock ≠ some j := by
  rcases h.2 with ⟨rfl, _⟩ | ⟨g, cap, cur, rfl, _, hgb, _⟩
  · exact .inl rfl
  · refine .inr fun e' => ?_
    have : g = j := by simpa [Value.ownBlock] using e'
    subst this; rw [hgb] at hj; cases hj; exact hno cur rfl
theorem cell_of_box8 {W : World} {B : Nat} {v : Value} {t : TypeId} (h : W.heap[B]? = some (.cells #[v] t (0, 0))) : W.cell? ⟨B, 0, none⟩ = some v ∧ W.frozen? ⟨B, 0, none⟩ = false := by
  constructor <;> simp [World.cell?, World.frozen?, h]
theorem heap_setCell_box8 {W : World} {B : Nat} {v : Value} {t : TypeId} (v' : Value) (h : W.heap[B]? = some (.cells #[v] t (0, 0))) : (W.setCell ⟨B, 0, none⟩ v').heap[B]? = some (.cells #[v'] t (0, 0)) := by
  obtain ⟨hlt, hk⟩ := Array.getElem?_eq_some_iff.1 h
  show (W.heap.modify B _)[B]? = _
  rw [Array.getElem?_eq_getElem (by rw [Array.size_modify]; exact hlt), Array.getElem_modify_self, hk]
  rfl
theorem info5 : (Try.prog.info? 5).map (fun i => (i.zero, i.size, i.bytes)) = some (some (.int .u8 0), 1, 1) := by kernel_rfl
set_option maxRecDepth 100000 in
set_option maxHeartbeats 2000000 in
theorem apYield (F : Fence) (m : Nat) (w0 : World) (fn : FuncId) (hfn : F.fn fn) (sv : Value) (Bs l D : Nat) (hBl : Bs ≠ l) (hDl : D ≠ l) (hDB : D ≠ Bs) (h0B : w0.heap.size ≤ Bs) (h0l : w0.heap.size ≤ l)
    (N : Nat) (hN : N ≤ maxLen) (hNb : N * 1 ≤ 140737488355328) (ss : List UInt8) (x : UInt8) (W : World) (h : ApAt w0 fn sv Bs l D ss W) (hlen : ss.length < N) :
    YieldAt F m Try.prog l #[enc8 x] W fun e W' => e = .returned (.bool true) ∧ ApAt w0 fn sv Bs l D (ss ++ [x]) W' ∧ Below w0.heap.size W W' := by
  obtain ⟨i0, hi, hz0, hz1, hz2⟩ := info_parts info5
  obtain ⟨v, hv, hrow, _⟩ := h.box
  refine ⟨fn, #[.slice none 0 0, sv, .pointer (some ⟨Bs, 0, none⟩), undef, .slice none 0 0, undef, sv, enc8 x, undef, undef, undef, undef, undef], apAssign, apBody, by simpa [apRec] using run_yield (P := Try.prog) (args := #[enc8 x]) h.L rfl, roundIn_of_wpIn hfn ?_⟩
  have hl : l < W.heap.size := (Array.getElem?_eq_some_iff.1 h.L).1
  have hbr := run_beginRound (P := Try.prog) h.L rfl
  obtain ⟨W2, hW2⟩ : ∃ W2, W.putObj l (.loop { apRec fn sv Bs D .ready none with state := .busy }) = W2 := ⟨_, rfl⟩
  rw [hW2] at hbr
  have hg2 : W.grownBy W2 (some l) := by rw [← hW2]; exact grownBy_putObj8 _ _ _
  have hv2 : W2.heap[Bs]? = some (.cells #[v] 25 (0, 0)) := by rw [← hW2]; exact (World.putObj_heap_other hBl).trans hv
  have hK2 : W2.heap[D]? = some (.deferred (some [])) := by rw [← hW2]; exact (World.putObj_heap_other hDl).trans h.K
  have hL2 : W2.heap[l]? = some (.loop { apRec fn sv Bs D .ready none with state := .busy }) := by rw [← hW2]; exact World.putObj_heap_same hl
  have hrow2 : W2.ownsRow w0.heap.size 5 1 v ss.length (ss.map enc8) := hrow.kept hg2 (ownsRow_ne8 hrow h.L (fun cur e => by cases e))
  have hz : w0.heap.size ≤ W.heap.size := h.below.size
  have hb2 : Below w0.heap.size W W2 := (Below.refl _ W).grown hg2 hz (fun k e => by cases e; exact h0l)
  have hzw : w0.heap.size ≤ W2.heap.size := Nat.le_trans hz hb2.size
  obtain ⟨hc2, hf2⟩ := cell_of_box8 hv2
  have hBlt : Bs < W2.heap.size := (Array.getElem?_eq_some_iff.1 hv2).1
  have hl2 : l < W2.heap.size := (Array.getElem?_eq_some_iff.1 hL2).1
  have hDlt : D < W2.heap.size := (Array.getElem?_eq_some_iff.1 hK2).1
  have ne_of : ∀ {j : Nat} {o : Obj}, W2.heap[j]? = some o → (∀ cur, o ≠ .cells cur 5 (0, 0)) → some j ≠ v.ownBlock := fun hj hno => by
    rcases ownsRow_ne8 hrow2 hj hno with e | e
    · rw [e]; simp
    · exact fun e' => e e'.symm
  clear hW2
  unfold apAssign
  gi_wp2_with (rw [Oper.semAt_eq _ _ _ (fun c h => by cases h)]; go_simp; try go_bits)
  unfold apBody
  gi_wp2_with (first
    | (gi_at_builtin; refine wpListIn_append_own _ rfl _ _ 25 rfl w0.heap.size 5 i0 (.int .u8 0) 1 1 Try.underlying25 hi hz0 hz1 hz2 rfl (by decide) _ _ _ rfl (hrow2.alloc _) ⟨W2.heap.size, 0, none⟩ 1 1 [enc8 x] rfl rfl (cell_one_new _ _ _) (by simp [Value.oneCell', enc8]) (by omega) (by omega) (by simp; omega) ?_; intro v' w3 hown' hg3 hnil3
       have hv3 : w3.heap[Bs]? = some (.cells #[v] 25 (0, 0)) := (hg3.block Bs (by simp; omega) (ne_of hv2 (fun cur e => by cases e))).trans ((Below.heap_alloc _ _ Bs hBlt).trans hv2)
       obtain ⟨hc3, hf3⟩ := cell_of_box8 hv3
       obtain ⟨g', cap', cur', rfl, hbase', hgb', hr1, hr2, hr3, hr4⟩ : ∃ g' cap' cur', v' = .slice (some ⟨g', 0, none⟩) (ss.length + 1) cap' ∧ w0.heap.size ≤ g' ∧ w3.heap[g']? = some (.cells cur' 5 (0, 0)) ∧ ss.length + 1 ≤ cap' ∧ cap' ≤ maxLen ∧ cur'.size = cap' * 1 ∧ cur'.toList.take ((ss.length + 1) * 1) = ss.map enc8 ++ [enc8 x] := by
         rcases hown'.2 with ⟨_, h0⟩ | h'
         · exact absurd h0 (by omega)
         · exact h'
       simp only [Act.put, List.setIfInBounds_toArray, List.set_cons_succ, List.set_cons_zero])
    | (rw [Oper.semAt_eq _ _ _ (fun c h => by cases h)]; go_simp; try go_bits))
  have hg3' : (W2.alloc (.cells #[enc8 x] 5)).grownBy w3 v.ownBlock := hg3
  have hL3 : w3.heap[l]? = some (.loop { apRec fn sv Bs D .ready none with state := .busy }) := (hg3'.block l (by simp; omega) (ne_of hL2 (fun cur e => by cases e))).trans ((Below.heap_alloc _ _ l hl2).trans hL2)
  have hK3 : w3.heap[D]? = some (.deferred (some [])) := (hg3'.block D (by simp; omega) (ne_of hK2 (fun cur e => by cases e))).trans ((Below.heap_alloc _ _ D hDlt).trans hK2)
  obtain ⟨w4, hw4⟩ : ∃ w4, w3.setCell ⟨Bs, 0, none⟩ (.slice (some ⟨g', 0, none⟩) (ss.length + 1) cap') = w4 := ⟨_, rfl⟩
  rw [hw4]
  have hg4 : w3.grownBy w4 (some Bs) := by rw [← hw4]; exact grownBy_setCell8 _ _ _
  have hv4 : w4.heap[Bs]? = some (.cells #[.slice (some ⟨g', 0, none⟩) (ss.length + 1) cap'] 25 (0, 0)) := by rw [← hw4]; exact heap_setCell_box8 _ hv3
  have hL4 : w4.heap[l]? = some (.loop { apRec fn sv Bs D .ready none with state := .busy }) := (hg4.block l (Array.getElem?_eq_some_iff.1 hL3).1 (fun e => hBl (by cases e; rfl))).trans hL3
  have hK4 : w4.heap[D]? = some (.deferred (some [])) := (hg4.block D (Array.getElem?_eq_some_iff.1 hK3).1 (fun e => hDB (by cases e; rfl))).trans hK3
  have hrow4 := hown'.kept hg4 (ownsRow_ne8 hown' hv3 (fun cur e => by cases e))
  have hl4 : l < w4.heap.size := (Array.getElem?_eq_some_iff.1 hL4).1
  have hb3 : Below w0.heap.size W w3 := (hb2.alloc hzw _).grown hg3' (by simp; omega) (fun k e => (hrow2.lt k e).1)
  have hb4 : Below w0.heap.size W w4 := hb3.grown hg4 (Nat.le_trans hz hb3.size) (fun k e => by cases e; exact h0B)
  have hb5 : Below w0.heap.size W (w4.putObj l (.loop { { apRec fn sv Bs D .ready none with state := .busy } with state := if (none : Option Code).isNone then .ready else .done, pending := none })) := hb4.grown (grownBy_putObj8 _ _ _) (Nat.le_trans hz hb4.size) (fun k e => by cases e; exact h0l)
  clear hw4
  refine ⟨_, _, run_endRound none hL4, rfl, ⟨⟨_, (World.putObj_heap_other hBl).trans hv4, ?_, by simp⟩, World.putObj_heap_same hl4, (World.putObj_heap_other hDl).trans hK4, h.below.trans hb5⟩, hb5⟩
  have := hrow4.kept (grownBy_putObj8 w4 l (.loop { { apRec fn sv Bs D .ready none with state := .busy } with state := if (none : Option Code).isNone then .ready else .done, pending := none })) (ownsRow_ne8 hrow4 hL4 (fun cur e => by cases e))
  simpa using this
set_option maxRecDepth 100000 in
set_option maxHeartbeats 2000000 in
/-- slices.AppendSeq(nil, slices.Values(s)) at bytes: a slice that owns, in a block of the call's own, the bytes of s; nothing that lay before the call has turned. -/
theorem appendSeq_in (F : Fence) (n : Nat) (h11 : F.fn 66) (h7 : F.fn 57) (hro : F.round = none) (hn : 2 ≤ n) (Bv b off cap : Nat) (zs : List UInt8) (hN : zs.length ≤ 1000000) (w : World)
    (hBv : Bv < w.heap.size) (hb : b < w.heap.size) (hBs : w.cell? ⟨Bv, 0, none⟩ = some (.slice (some ⟨b, off, none⟩) zs.length cap)) (hc : ∀ j, j < zs.length → w.cell? ⟨b, off + j, none⟩ = some (enc8 (zs[j]?.getD 0))) :
    CallsIn F n Try.prog 66 #[.slice none 0 0, .func (.func 57) #[] #[.pointer (some ⟨Bv, 0, none⟩)]] w fun e w' => ∃ v : Value, e = .returned v ∧ w'.ownsRow w.heap.size 5 1 v zs.length (zs.map enc8) ∧ (v = .slice none 0 0 ↔ zs = []) ∧ Below w.heap.size w w' := by
  have h1 : 1 ≤ n := by omega
  refine callsIn_of_wp_marks Try.func66 rfl h11 ?_ hro
  simp only [Try.ntmps66, List.size_toArray, List.length_cons, List.length_nil, Nat.reduceAdd, Nat.reduceSub, Array.replicate_succ, Array.replicate_zero, List.push_toArray, List.append_toArray, List.nil_append, List.cons_append]
  gi_wp2
  refine wpIn_rangeFunc ?_
  intro fn hfn
  rw [hro]
  obtain ⟨W0, hW0⟩ : ∃ W0, w.alloc (.cells #[.slice none 0 0] 25) = W0 := ⟨_, rfl⟩
  have hs0 : W0.heap.size = w.heap.size + 1 := by rw [← hW0]; simp
  have hv0 : W0.heap[w.heap.size]? = some (.cells #[.slice none 0 0] 25 (0, 0)) := by rw [← hW0]; exact World.alloc_heap_new w _
  have hb0 : Below w.heap.size w W0 := by rw [← hW0]; exact (Below.refl _ w).alloc (Nat.le_refl _) _
  rw [hW0]
  obtain ⟨sv, hsv⟩ : ∃ sv, sv = Value.func (.func 57) #[] #[.pointer (some ⟨Bv, 0, none⟩)] := ⟨_, rfl⟩
  obtain ⟨W1, hW1⟩ : ∃ W1, (W0.alloc (.deferred (some []))).alloc (.loop (apRec fn sv w.heap.size W0.heap.size .ready none)) = W1 := ⟨_, rfl⟩
  have hold : ∀ k, k < W0.heap.size → W1.heap[k]? = W0.heap[k]? := fun k hk => by
    rw [← hW1]; exact (Below.heap_alloc _ _ k (by simp; omega)).trans (Below.heap_alloc _ _ k hk)
  have hb1 : Below w.heap.size w W1 := by rw [← hW1]; exact (hb0.alloc hb0.size _).alloc (by have := hb0.size; simp; omega) _
  have hs1 : W1.heap.size = W0.heap.size + 2 := by rw [← hW1]; simp
  have hM : ApAt w fn sv w.heap.size (W0.heap.size + 1) W0.heap.size [] W1 :=
    ⟨⟨_, (hold w.heap.size (by omega)).trans hv0, ⟨rfl, .inl ⟨rfl, rfl⟩⟩, by simp⟩,
     by rw [← hW1]; have := World.alloc_heap_new (W0.alloc (.deferred (some []))) (.loop (apRec fn sv w.heap.size W0.heap.size .ready none)); rwa [World.size_alloc] at this,
     by rw [← hW1]; exact (Below.heap_alloc _ _ _ (by simp)).trans (World.alloc_heap_new W0 _), hb1⟩
  refine ⟨W0.heap.size + 1, [{ target := .collected W0.heap.size, args := #[] }], W1, { target := .fn (.func 57) #[.pointer (some ⟨Bv, 0, none⟩)], args := #[.func (.yield (W0.heap.size + 1)) #[] #[]] }, W1, 57,
    #[.func (.yield (W0.heap.size + 1)) #[] #[]] ++ #[.pointer (some ⟨Bv, 0, none⟩)], W1, ?_, ?_, ?_, ?_, fun _ => h1, ?_⟩
  · rw [← hW1, hsv]; exact run_enterLoop_outer _ _ _ _ _
  · simp [resolve, go_sem]
  · intro f' hf'; simp [Target.leads] at hf'; subst hf'; exact h7
  · simp [invoke, go_sem, enters_of Try.func57 (by kernel_rfl) rfl]
  · refine (vals1_in F (n - 1) h7 hro (by omega) (W0.heap.size + 1) Bv w.heap.size b off zs.length cap zs hN hb (ApAt w fn sv w.heap.size (W0.heap.size + 1) W0.heap.size)
      (fun pre x W hJ hl => apYield F (n - 1 - 1) w fn hfn sv w.heap.size (W0.heap.size + 1) W0.heap.size (by omega) (by omega) (by omega) (Nat.le_refl _) (by omega) zs.length (by unfold maxLen; omega) (by omega) pre x W hJ hl) W1 ((hb1.cell hBv).trans hBs) (fun j hj => (hb1.cell (p := ⟨b, off + j, none⟩) hb).trans (hc j hj)) rfl hM).mono ?_
    rintro e W2 ⟨⟨v0, rfl⟩, h2⟩
    obtain ⟨v, hv, hrow, hnil⟩ := h2.box
    have hend := run_endLoop (P := Try.prog) h2.L (by simp [apRec])
    obtain ⟨W3, hW3⟩ : ∃ W3, W2.putObj (W0.heap.size + 1) (.loop { apRec fn sv w.heap.size W0.heap.size .ready none with state := .exhausted }) = W3 := ⟨_, rfl⟩
    rw [hW3] at hend
    have hg3 : W2.grownBy W3 (some (W0.heap.size + 1)) := by rw [← hW3]; exact grownBy_putObj8 _ _ _
    have hv3 : W3.heap[w.heap.size]? = some (.cells #[v] 25 (0, 0)) := by rw [← hW3]; exact (World.putObj_heap_other (by omega)).trans hv
    have hK3 : W3.heap[W0.heap.size]? = some (.deferred (some [])) := by rw [← hW3]; exact (World.putObj_heap_other (by omega)).trans h2.K
    have hrow3 := hrow.kept hg3 (ownsRow_ne8 hrow h2.L (fun cur e => by cases e))
    have hb3 : Below w.heap.size w W3 := h2.below.grown hg3 h2.below.size (fun k e => by cases e; omega)
    obtain ⟨hc3, hf3⟩ := cell_of_box8 hv3
    clear hW3
    refine ⟨none, W3, hend, ?_⟩
    gi_wp2
    rw [← hs0]
    refine ⟨by simp, .inl ⟨_, _, rfl, run_takeDeferred hK3, ?_⟩⟩
    exact ⟨_, results_tmp rfl _ _ _, v, rfl, hrow3.kept (grownBy_putObj8 _ _ _) (ownsRow_ne8 hrow3 hK3 (fun cur e => by cases e)), hnil, hb3.grown (grownBy_putObj8 _ _ _) hb3.size (fun k e => by cases e; omega)⟩
theorem bytesV_enc (l : List UInt8) : l.map enc8 = bytesV l := rfl
/-- slices.AppendSeq(nil, slices.Values(s)), in the words of the calculus. -/
theorem appSeq_does (Bv b off cap : Nat) (own : Bool) (tot : Nat) (zs : List UInt8) (M : Mem) (R : Value → Mem → Prop) (h1 : 1 ≤ zs.length) (hN : zs.length ≤ 1000000) (hv : M Bv = some (.cells own [.slice (some ⟨b, off, none⟩) zs.length cap] tot))
    (hr : Rd M (.slice (some ⟨b, off, none⟩) zs.length cap) (bytesV zs)) (h : ∀ g c, M g = none → zs.length ≤ c → R (.slice (some ⟨g, 0, none⟩) zs.length c) (M.put g (.cells true (bytesV zs) c))) :
    Does Try.prog 66 [.slice none 0 0, .func (.func 57) #[] #[.pointer (some ⟨Bv, 0, none⟩)]] M R := by
  refine ⟨⟨_, Try.func66, by kernel_rfl, by kernel_rfl⟩, fun w hw => ?_⟩
  have hBv := hw.cell (show M.get? Bv 0 = _ from get_of hv 0)
  have hltB := told_lt8 hw hv
  obtain ⟨a', c', he, ha⟩ := hr.opened
  rw [bytesV_length] at he ha
  injection he with e1 e2 e3
  rcases ha with h0 | ⟨b', o', e4, ha⟩
  · omega
  rw [e4] at e1
  injection e1 with e1
  injection e1 with e5 e6
  subst e5; subst e6
  have hcell : ∀ j, j < zs.length → w.cell? ⟨b, off + j, none⟩ = some (enc8 (zs[j]?.getD 0)) := by
    intro j hj
    refine hw.cell ?_
    rw [ha j hj]
    unfold bytesV
    rw [List.getElem?_map, List.getElem?_eq_getElem hj]
    rfl
  have hltb : b < w.heap.size := by
    have := hcell 0 (by omega)
    rcases Nat.lt_or_ge b w.heap.size with hlt | hge
    · exact hlt
    · simp only [World.cell?, Array.getElem?_eq_none hge] at this; cases this
  refine (callsIn_wide.1 (appendSeq_in Fence.wide 2 trivial trivial rfl (Nat.le_refl 2) Bv b off cap zs hN w hltB hltb hBv hcell)).mono ?_
  rintro e w' ⟨v, rfl, hrow, hnil, hbl⟩
  have hne : zs ≠ [] := by rintro rfl; simp at h1
  rcases hrow.2 with ⟨hn, _⟩ | ⟨g, c, cur, rfl, hg0, hgb, hk1, hk2, hk3, hk4⟩
  · exact absurd (hnil.1 hn) hne
  have hMg : M g = none := hw.fresh hg0
  rw [bytesV_enc, Nat.mul_one] at hk4
  refine ⟨_, M.put g (.cells true (bytesV zs) c), rfl, ?_, ⟨hbl.os, hbl.tape, hbl.output, hbl.size, fun k hk _ => hbl.block k hk, ?_⟩, h g c hMg hk1⟩
  · intro i B hB
    unfold Mem.put at hB
    split at hB
    · rename_i e; subst e; injection hB with hB; subst hB
      refine ⟨cur, 5, (0, 0), hgb, by omega, ⟨cur.toList.drop zs.length, ?_⟩, fun _ => .inl rfl⟩
      rw [← hk4, List.take_append_drop]
    · exact rep_below8 hw hbl i B hB
  · rintro k ⟨B, hB, ho⟩
    unfold Mem.put at hB
    split at hB
    · rename_i e; subst e; exact .inr hg0
    · exact .inl ⟨B, hB, ho⟩
theorem collect_does (Bv b off cap : Nat) (own : Bool) (tot : Nat) (zs : List UInt8) (M : Mem) (R : Value → Mem → Prop) (h1 : 1 ≤ zs.length) (hN : zs.length ≤ 1000000) (hv : M Bv = some (.cells own [.slice (some ⟨b, off, none⟩) zs.length cap] tot))
    (hr : Rd M (.slice (some ⟨b, off, none⟩) zs.length cap) (bytesV zs)) (h : ∀ g c, M g = none → zs.length ≤ c → R (.slice (some ⟨g, 0, none⟩) zs.length c) (M.put g (.cells true (bytesV zs) c))) :
    Does Try.prog 55 [.func (.func 57) #[] #[.pointer (some ⟨Bv, 0, none⟩)]] M R := by
  refine does_fn tab_ok Try.func55 rfl (by kernel_rfl) (by kernel_rfl) Try.ntmps55 Try.results55 rfl ?_
  simp (disch := omega)
  refine appSeq_does Bv b off cap own tot zs _ _ h1 hN hv hr ?_
  intro g c hg hc
  simp (disch := omega)
  exact ret_of (h g c hg hc)
theorem valuesB_does (a : Option Addr) (n c : Nat) (M : Mem) (R : Value → Mem → Prop) (h : ∀ Bv, M Bv = none → R (.func (.func 57) #[] #[.pointer (some ⟨Bv, 0, none⟩)]) (M.put Bv (.cells true [.slice a n c] 1))) :
    Does Try.prog 30 [.slice a n c] M R := by
  refine does_fn tab_ok Try.func30 rfl (by kernel_rfl) (by kernel_rfl) Try.ntmps30 Try.results30 rfl ?_
  simp (disch := omega)
  intro Bv hBv
  simp (disch := omega)
  exact ret_of (h Bv hBv)
end Go.Proofs.Yticejlplbibegaa
