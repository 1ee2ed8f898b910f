/- The program's arrival times: what the walk needs. Conditions: as each states. -/
import Derived.Test.YtnacofmjipilhaaArr
import Derived.Test.YtnacofmjipilhaaFilt
import Derived.Test.YtnacofmjipilhaaBurn1
import Derived.Deep.RegionHeldLaw
namespace Go.Proofs.Ytnacofmjipilhaa
open Go.ChangeShapes Go.WideShapes Go.ChangeAt Go.RowKit Go.Deep
set_option linter.unusedVariables false
set_option linter.unusedSimpArgs false
set_option maxRecDepth 100000

/-- Cells of a table get one tick. -/
def putS (s : Int) (l : List Int) (L : List Int) : List Int := l.foldl (fun L c => L.set c.toNat s) L
theorem putS_length (s : Int) : ∀ (l L : List Int), (putS s l L).length = L.length
  | [], L => rfl
  | c :: l, L => by
    show (putS s l (L.set c.toNat s)).length = _
    rw [putS_length s l, List.length_set]
theorem putS_snoc (s : Int) (l L : List Int) (c : Int) : putS s (l ++ [c]) L = (putS s l L).set c.toNat s := by unfold putS; rw [List.foldl_append]; rfl
theorem putS_take {s : Int} {l L : List Int} {k : Nat} {c : Int} (h : l[k]? = some c) : putS s (l.take (k + 1)) L = (putS s (l.take k) L).set c.toNat s := by rw [take_snoc' h, putS_snoc]
theorem putS_tm (s : Int) : ∀ (l L : List Int) (n : Nat), L.length = n → (∀ z ∈ l, 0 ≤ z ∧ z ≤ (n : Int) - 1) → ∀ c, tm (putS s l L) c = if (c : Int) ∈ l then s else tm L c
  | [], L, n, hl, hz, c => by simp [putS]
  | d :: l, L, n, hl, hz, c => by
    have hd := hz d (by simp)
    have ih := putS_tm s l (L.set d.toNat s) n (by rw [List.length_set, hl]) (fun z h => hz z (by simp [h])) c
    show tm (putS s l (L.set d.toNat s)) c = _
    rw [ih, tm_set (by omega)]
    by_cases h1 : (c : Int) ∈ l
    · rw [if_pos h1, if_pos (by simp [h1])]
    · rw [if_neg h1]
      by_cases h2 : c = d.toNat
      · rw [if_pos h2, if_pos (by rw [List.mem_cons]; left; omega)]
      · rw [if_neg h2, if_neg (by rw [List.mem_cons]; rintro (e | e); omega; exact h1 e)]
theorem hasB_mem {l : List Int} {c : Int} : hasB l c = true ↔ c ∈ l := by
  unfold hasB
  rw [List.any_eq_true]
  constructor
  · rintro ⟨z, hz, e⟩
    have : z = c := by simpa using e
    exact this ▸ hz
  · intro h; exact ⟨c, h, by simp⟩
/-- The program's first table. -/
def ini2 (zs srcs : List Int) (s : Int) : List Int := putS s (srcs.filter fun z => burnP zs z.toNat) (List.replicate zs.length (-1))
theorem rep_tm (n c : Nat) : tm (List.replicate n (-1 : Int)) c = -1 := by
  rcases Nat.lt_or_ge c n with h | h
  · exact tm_at (by simp [h])
  · exact tm_out (by simpa using h)
theorem ini2_inv {x y : Int} {zs srcs : List Int} (ps : List (Int × Int)) {s : Int} (h : terrB x y zs = true) (hb : ∀ z ∈ srcs, 0 ≤ z ∧ z ≤ (zs.length : Int) - 1) (h0 : 0 ≤ s) (h1 : s ≤ 1000) : BInv zs.length (fireSr zs srcs) (fireSt x zs) (fireD x zs ps) s (ini2 zs srcs s) := by
  have key := putS_tm s (srcs.filter fun z => burnP zs z.toNat) (List.replicate zs.length (-1)) zs.length (by simp) (fun z hz => hb z ((List.mem_filter.1 hz).1))
  refine BInv.begin (fireX ps h h0 h1) (by unfold ini2; rw [putS_length]; simp) (fun c hc => ?_) (fun c hc => ?_)
  · unfold ini2
    rw [key, if_pos]
    exact List.mem_filter.2 ⟨hasB_mem.1 hc.2.1, by simpa using hc.2.2⟩
  · unfold ini2
    rw [key, rep_tm, if_neg]
    intro hm
    obtain ⟨h2, h3⟩ := List.mem_filter.1 hm
    have := hb _ h2
    exact hc ⟨by omega, hasB_mem.2 h2, by simpa using h3⟩
/-- Two tables in memory, behind a terrain's box. -/
structure Dl (w wr : World) (x y : Int) (u : Value) (g f N : Nat) (L : List Int) (F : List Bool) : Prop where
  hb : Below w.heap.size w wr
  hT : TB wr w.heap.size x y u
  ho : wr.ownsRow (w.heap.size + 1) 3 1 (.slice (some ⟨g, 0, none⟩) N N) N (ints L)
  hf : wr.ownsRow (w.heap.size + 1) 4 1 (.slice (some ⟨f, 0, none⟩) N N) N (F.map Value.bool)
  ne : g ≠ f
theorem Dl.below {w wr w' : World} {x y : Int} {u : Value} {g f N : Nat} {L : List Int} {F : List Bool} (h : Dl w wr x y u g f N L F) (hb : Below wr.heap.size wr w') : Dl w w' x y u g f N L F :=
  ⟨grow_trans h.hb hb, h.hT.below hb, own_below h.ho hb, own_below h.hf hb, h.ne⟩
theorem Dl.base {w wr : World} {x y : Int} {u : Value} {g f N : Nat} {L : List Int} {F : List Bool} (h : Dl w wr x y u g f N L F) : w.heap.size + 1 ≤ g ∧ w.heap.size + 1 ≤ f ∧ g < wr.heap.size ∧ f < wr.heap.size :=
  ⟨(h.ho.lt g rfl).1, (h.hf.lt f rfl).1, (h.ho.lt g rfl).2, (h.hf.lt f rfl).2⟩
theorem Dl.put {w wr : World} {x y : Int} {u : Value} {g f N : Nat} {L : List Int} {F : List Bool} (h : Dl w wr x y u g f N L F) (k : Nat) (z : Int) : Dl w (wr.setCell ⟨g, k, none⟩ (.int .i64 z)) x y u g f N (L.set k z) F := by
  obtain ⟨h1, h2⟩ := h.ho.stored k (.int .i64 z)
  have hg := h.base
  refine ⟨h.hb.setCell (by show w.heap.size ≤ g; omega) _, h.hT.kept h2 (fun e => by cases e; omega), ?_, own_kept h.hf h2 (fun j hj e => by cases e; cases hj; exact h.ne rfl), h.ne⟩
  rw [show ints (L.set k z) = (ints L).set k (.int .i64 z) from List.map_set]
  exact h1
theorem Dl.mark {w wr : World} {x y : Int} {u : Value} {g f N : Nat} {L : List Int} {F : List Bool} (h : Dl w wr x y u g f N L F) (k : Nat) : Dl w (wr.setCell ⟨f, k, none⟩ (.bool true)) x y u g f N L (F.set k true) := by
  obtain ⟨h1, h2⟩ := h.hf.stored k (.bool true)
  have hg := h.base
  refine ⟨h.hb.setCell (by show w.heap.size ≤ f; omega) _, h.hT.kept h2 (fun e => by cases e; omega), own_kept h.ho h2 (fun j hj e => by cases e; cases hj; exact h.ne rfl), ?_, h.ne⟩
  rw [List.map_set]
  exact h1
theorem Dl.cell {w wr : World} {x y : Int} {u : Value} {g f N : Nat} {L : List Int} {F : List Bool} (h : Dl w wr x y u g f N L F) {k : Nat} (hl : L.length = N) (hk : k < N) : wr.cell? ⟨g, k, none⟩ = some (.int .i64 (tm L k)) ∧ wr.frozen? ⟨g, k, none⟩ = false := by
  refine ⟨?_, h.ho.frozenAt k⟩
  rw [h.ho.cellAt k (by omega)]
  simp [tm_get (show k < L.length by omega)]
theorem Dl.cellB {w wr : World} {x y : Int} {u : Value} {g f N : Nat} {L : List Int} {F : List Bool} (h : Dl w wr x y u g f N L F) {k : Nat} (hl : F.length = N) (hk : k < N) : wr.cell? ⟨f, k, none⟩ = some (.bool (fx F k)) ∧ wr.frozen? ⟨f, k, none⟩ = false := by
  refine ⟨?_, h.hf.frozenAt k⟩
  rw [h.hf.cellAt k (by omega)]
  simp [fx_get (show k < F.length by omega)]
/-- The world behind a make. -/
noncomputable def mkW (P : Program) (t : TypeId) (N : Nat) (w : World) : World := match (Instr.makeSlice t (.int .i64 (N : Int)) (.int .i64 (N : Int))).run P w with
  | .ok _ w' => w'
  | _ => w
theorem mkW_run {P : Program} {w : World} {t e : TypeId} {z : Value} {bytes : Nat} (ht : P.underlying t = some (.slice e)) (hi : (P.info? e).map (fun i => (i.zero, i.size, i.bytes)) = some (some z, 1, bytes)) (N : Nat) (hN : N ≤ 1048576) (hb : bytes ≤ 100) :
    (Instr.makeSlice t (.int .i64 (N : Int)) (.int .i64 (N : Int))).run P w = .ok (.slice (some ⟨w.heap.size, 0, none⟩) N N) (mkW P t N w) ∧
      (mkW P t N w).ownsRow w.heap.size e 1 (.slice (some ⟨w.heap.size, 0, none⟩) N N) N (madeCells z.cells (N * 1)).toList ∧ w.grownBy (mkW P t N w) none := by
  obtain ⟨i, h1, h2, h3, h4⟩ := info_parts hi
  have hby : i.bytes * N ≤ 281474976710656 := by
    rw [h4]
    have := Nat.mul_le_mul hb hN
    omega
  obtain ⟨w', hr, ho, hg⟩ := run_make_full (P := P) (w := w) w.heap.size t e i z 1 ht h1 h2 h3 .i64 .i64 N hby (by unfold maxLen; omega) (Nat.le_refl _)
  have : mkW P t N w = w' := by unfold mkW; rw [hr]
  rw [this]
  exact ⟨hr, ho, hg⟩
theorem info_bool2 : (Try.prog.info? 4).map (fun i => (i.zero, i.size, i.bytes)) = some (some (.bool false), 1, 1) := by kernel_rfl
theorem made_bools2 (N : Nat) : (madeCells #[Value.bool false] N).toList = (List.replicate N false).map Value.bool := by
  unfold madeCells
  apply List.ext_getElem (by simp)
  intro i h1 h2
  simp [Nat.mod_one]
theorem made_ints2 (N : Nat) : (madeCells #[Value.int .i64 0] N).toList = ints (List.replicate N 0) := by
  unfold madeCells
  apply List.ext_getElem (by simp)
  intro i h1 h2
  simp [Nat.mod_one]
theorem mk_ints {w : World} (N : Nat) (hN : N ≤ 1048576) : (Instr.makeSlice 67 (.int .i64 (N : Int)) (.int .i64 (N : Int))).run Try.prog w = .ok (.slice (some ⟨w.heap.size, 0, none⟩) N N) (mkW Try.prog 67 N w) ∧
    (mkW Try.prog 67 N w).ownsRow w.heap.size 3 1 (.slice (some ⟨w.heap.size, 0, none⟩) N N) N (ints (List.replicate N 0)) ∧ Below w.heap.size w (mkW Try.prog 67 N w) := by
  obtain ⟨h1, h2, h3⟩ := mkW_run (w := w) Try.underlying67 info_int N hN (by omega)
  refine ⟨h1, ?_, (Below.refl _ _).grown h3 (Nat.le_refl _) (by simp)⟩
  rw [Nat.mul_one] at h2
  rw [← made_ints2]; exact h2
theorem mk_bools {w : World} (N : Nat) (hN : N ≤ 1048576) : (Instr.makeSlice 156 (.int .i64 (N : Int)) (.int .i64 (N : Int))).run Try.prog w = .ok (.slice (some ⟨w.heap.size, 0, none⟩) N N) (mkW Try.prog 156 N w) ∧
    (mkW Try.prog 156 N w).ownsRow w.heap.size 4 1 (.slice (some ⟨w.heap.size, 0, none⟩) N N) N ((List.replicate N false).map Value.bool) ∧ Below w.heap.size w (mkW Try.prog 156 N w) := by
  obtain ⟨h1, h2, h3⟩ := mkW_run (w := w) Try.underlying156 info_bool2 N hN (by omega)
  refine ⟨h1, ?_, (Below.refl _ _).grown h3 (Nat.le_refl _) (by simp)⟩
  rw [Nat.mul_one] at h2
  rw [← made_bools2]; exact h2
theorem fx_rep (N c : Nat) : fx (List.replicate N false) c = false := by
  unfold fx
  rw [List.getD_eq_getElem?_getD, List.getElem?_replicate]
  split <;> rfl
end Go.Proofs.Ytnacofmjipilhaa
