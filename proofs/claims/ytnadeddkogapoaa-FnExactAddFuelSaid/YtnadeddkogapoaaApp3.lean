/- Heads and tails of slices whose elements have several cells; a slice of one element just made. Conditions: as each states. -/
import Derived.Test.YtnadeddkogapoaaQueue
import Derived.Deep.RegionHeldLaw
import Derived.Maps.AppendAt
namespace Go.Proofs.Ytnadeddkogapoaa
open Go.ChangeShapes Go.WideShapes Go.ChangeAt Go.RowKit Go.Deep
set_option linter.unusedVariables false
set_option linter.unusedSimpArgs false
set_option maxRecDepth 100000

theorem Sl.cutK {w : World} {K k n : Nat} {A : Option Addr} {c : Nat} {xs : List Value} (h : Sl w K (.slice A n c) n xs) (hk : k ≤ n) : Sl w K (.slice A k c) k (xs.take (k * K)) := by
  obtain ⟨A', c', e, h1, h2, h3, h4⟩ := h
  injection e with e1 _ e2
  subst e1 e2
  have hle : k * K ≤ n * K := Nat.mul_le_mul_right _ hk
  refine ⟨A, c, rfl, by omega, h2, by rw [List.length_take]; omega, fun hp => ?_⟩
  rw [List.length_take] at hp
  obtain ⟨b, off, rfl, hc⟩ := h4 (by omega)
  refine ⟨b, off, rfl, fun j u hu => ?_⟩
  rw [List.getElem?_take] at hu
  split at hu
  · exact hc j u hu
  · cases hu
theorem Sl.fromK {w : World} {K k n : Nat} {A : Option Addr} {c : Nat} {xs : List Value} (h : Sl w K (.slice A n c) n xs) (hk : k ≤ n) : Sl w K (.slice (if c = k then A else A.map (·.add (k * K))) (n - k) (c - k)) (n - k) (xs.drop (k * K)) := by
  obtain ⟨A', c', e, h1, h2, h3, h4⟩ := h
  injection e with e1 _ e2
  subst e1 e2
  refine ⟨_, _, rfl, by omega, by omega, by rw [List.length_drop, h3, ← Nat.sub_mul], fun hp => ?_⟩
  rw [List.length_drop] at hp
  obtain ⟨b, off, rfl, hc⟩ := h4 (by omega)
  by_cases e : c = k
  · exfalso
    have : n = k := by omega
    subst this
    omega
  · refine ⟨b, off + k * K, by simp [e, Addr.add_lit], fun j u hu => ?_⟩
    rw [List.getElem?_drop] at hu
    rw [Nat.add_assoc]
    exact hc _ u hu
theorem lit_one (w : World) (t : TypeId) (vs : List Value) (hv : vs.length ≤ 100) : Sl (w.alloc (.cells vs.toArray t)) vs.length (.slice (some ⟨w.heap.size, 0, none⟩) 1 1) 1 vs :=
  Sl.of_own (base := 0) (by
    have := World.ownsRow_lit (base := 0) (e := t) (size := vs.length) w vs.toArray 1 (Nat.zero_le _) (by unfold maxLen; omega) (by simp)
    simpa using this)
theorem Qw.emptyK {W : World} {g base K : Nat} {e : TypeId} (h : W.heap[g]? = some (.cells #[] e (0, 0))) (hb : base ≤ g) : Qw W base e K (.slice (some ⟨g, 0, none⟩) 0 0) 0 [] :=
  ⟨by simp, .inr ⟨g, 0, 0, #[], rfl, hb, h, Nat.le_refl _, by unfold maxLen; omega, by simp, by simp⟩⟩
section
variable {P : Program} (w : World)
/-- An append to a row of one's own at a step of a region that draws its order. -/
theorem step_append_ownW {ops : Array Oper} {o : Oper} {a : Act} {K : Act → World → Prop} {Q : Exit → Act → World → Prop} {E : Prop} (hgd : o.guard = none) (s x : Operand) (t : TypeId)
    (ho : o.op = .call { callee := .builtin .append, args := #[s, x], argTypes := #[t, t] })
    (base : Nat) (e : TypeId) (i : TypeInfo) (z : Value) (size bytes : Nat) (ht : P.underlying t = some (.slice e)) (hi : P.info? e = some i) (hz : i.zero = some z)
    (hsize : i.size = size) (hby : i.bytes = bytes) (hzs : z.cells.size = size) (hsz : 0 < size)
    (v : Value) (n : Nat) (xs : List Value) (hs : a.eval s = v) (hown : w.ownsRow base e size v n xs)
    (ad : Addr) (m c : Nat) (news : List Value) (hx : a.eval x = .slice (some ad) m c) (hl : news.length = m * size) (hnews : ∀ j u, news[j]? = some u → w.cell? (ad.add j) = some u) (h1 : ∀ u ∈ news, u.oneCell' = true)
    (h63 : n + m ≤ maxLen) (hbytes : (n + m) * bytes ≤ 140737488355328) (hbase : base ≤ w.heap.size)
    (h : ∀ v' w', w'.ownsRow base e size v' (n + m) (xs ++ news) → w.grownBy w' v.ownBlock → K (a.put o.dst v') w') :
    if Region.wanted o (yielded ops a.tmps) = true then Oper.wp P o a w K Q else E := by
  have hw : Region.wanted o (yielded ops a.tmps) = true := by simp [Region.wanted, hgd]
  rw [if_pos hw]
  obtain ⟨v', w', hr, h2, h3, _, _⟩ := run_append_own_at (P := P) w base t o.type e i z size bytes ht hi hz hsize hby hzs hsz v n xs hown ad m c news hl hnews h1 h63 hbytes hbase
  unfold Oper.wp execOp
  simp only [ho, resolve, invoke, builtin, Sem.run_bind, Sem.run_pure, Result.andThen_ok, List.map_toArray, List.map_cons, List.map_nil, hs, hx, hr]
  exact h v' w' h2 h3
end
theorem lit_news (w : World) (t : TypeId) (vs : List Value) (hv : vs.length ≤ 100) (h0 : 0 < vs.length) : ∀ j u, vs[j]? = some u → (w.alloc (.cells vs.toArray t)).cell? ((⟨w.heap.size, 0, none⟩ : Addr).add j) = some u := by
  obtain ⟨A, c, e, _, _, _, h4⟩ := lit_one w t vs hv
  injection e with e1
  obtain ⟨b, off, e2, hc⟩ := h4 h0
  rw [← e1] at e2
  injection e2 with e2
  injection e2 with e3 e4
  subst e3 e4
  intro j u hu
  have := hc j u hu
  rwa [Addr.add_lit]
end Go.Proofs.Ytnadeddkogapoaa
