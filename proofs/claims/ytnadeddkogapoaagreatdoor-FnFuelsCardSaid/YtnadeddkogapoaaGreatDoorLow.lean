/- The lower texts of this claim in one: plain functions, slices, the small functions of the program and of the reference. Conditions: as each states. -/
import Derived.Test.YtnadeddkogapoaaGreatDoorRows
import Derived.WalkKit
import Derived.ProofKit
import Derived.OpenShut
import Derived.ShutString
import Derived.WalkSpells
import Derived.WalkLawsBesides
import Derived.Lib.Hide
import Derived.Deep.Slices
import Derived.Lib.SmallJoins
import Derived.Deep.QuietTactic
import Derived.BigQuiet
import Derived.Below
import Derived.OwnWalk
import Derived.Deep.AppendSrc
import Derived.Deep.Upon
import Derived.RegionTactic
import Derived.Shelf.Abstract
import Derived.Deep.RegionWith
import Derived.Laws.BytesArg
import Derived.Laws.Bits64b
import Derived.Deep.RegionHeldLaw
import Derived.Maps.AppendAt
import Derived.Test.YtnadeddkogapoaaGreatDoorCards
import Derived.Test.YtnadeddkogapoaaGreatDoorTie
import Derived.LaidMore
import Derived.SevenTiedAt
import Derived.Lib.AppendIntMem
import Derived.Stop.LaidErr
import Derived.Shelf.Vars
import Derived.Lay
import Derived.Shelf.Strconv.Itoa3
import Derived.Shelf.LaysM
import Derived.Test.YtnadeddkogapoaaGreatDoorProg
import Derived.Lib.IndexAny
import Derived.Shelf.Strings.Search3
import Derived.Shelf.Strconv.Atoi
import Derived.Shelf.Strconv.ErrVar
import Derived.Shelf.LaysC
import Derived.Shelf.Strings.OnBuilder
import Derived.Shelf.Strings.Split
import Derived.Shelf.Sort.Plain
/- The frame that all laws of this seat share: a law that returns true and leaves what was there below the old heap as it was meets its row. Conditions: none of its own; each law pays its walk. -/
namespace Go.Proofs.YtnadeddkogapoaaGreatDoor
open Go.ChangeShapes Go.WideShapes Go.ChangeAt Go.RowKit
set_option maxRecDepth 100000

section
variable {H : Type} {enc : TypeId × Value → H} {P : Program}

/-- All arguments read behind the call as they did before, if nothing below the old heap has turned. -/
theorem trodAll_stays (hl : laidOutB P = true) {W W' : World} (hb : Below W.heap.size W W') : ∀ {ts : List TypeId} {vs : List Value} {ds : List (DataW H)} {ps : List MemPlace},
    (∀ t ∈ ts, P.readableRec t = true ∧ t < P.types.size) → DataW.TrodAll enc P W 0 (fun _ => true) true ts vs ds ps →
    DataW.TrodAll enc P W' 0 (fun b => decide (b < W.heap.size)) true ts vs ds ps
  | [], [], [], _, _, h => h
  | t :: ts, _ :: _, _ :: _, _, hr, h => by
    have hlt := DataW.TrodAll.lt h
    obtain ⟨p, q, h1, h2, rfl⟩ := h
    exact ⟨p, q, Below.trod hl (hr t (by simp)).1 (hr t (by simp)).2 h1 hb (fun x hx => hlt x (by simp [hx])), trodAll_stays hl hb (fun t ht => hr t (by simp [ht])) h2, rfl⟩

/-- The row's post of a law without named variables. -/
theorem law_post {f : Func} {s : ChangeSpec} {tb : TypeId} (hl : laidOutB P = true) (hr : ∀ t ∈ f.params.toList, P.readableRec t = true ∧ t < P.types.size)
    (hres : f.resultTypes = #[tb]) (htb : P.underlying tb = some .bool) (hvars : s.vars = []) {W W' : World} {args : Array Value} {ds gs : List (DataW H)} {before : List MemPlace}
    (hfn : s.fn H (ds ++ gs) = { results := [.lit (.bool true)], args := ds })
    (hW : DataW.Whole enc P f.params.toList s.vars false W args.toList ds gs before) (hb : Below W.heap.size W W') :
    s.post enc P f false true false false W args (.bool true) W' := by
  have hW' := hW
  obtain ⟨p, q, hA, hV, rfl, _, _⟩ := hW
  rw [hvars] at hV
  obtain ⟨rfl, rfl⟩ := trodVars_none hV
  refine ⟨ds, [], p ++ [], [], p, [], hW', ?_, ?_, ?_, hb.frame _, fun h => by cases h⟩
  · rw [hfn, hres]
    exact trodAll_mk1 (shut_bool htb true)
  · rw [hfn]
    exact trodAll_stays hl hb hr hA
  · rw [hfn, hvars]
    exact rfl
end

/-- The frame, once for all laws: the witness by four closed facts, the walk by the law. -/
theorem law_lifted {H : Type} {enc : TypeId × Value → H} {C : Checked} {os : Os} {f : FuncId} {fn : Func} {s : ChangeSpec} {tb : TypeId} (own : ownKnob C.prog.godebug = none) (started : os.Started)
    (noInit : C.prog.inits.idxOf? f = none) (hfn : C.prog.funcs[f]? = some fn)
    (witness : ∃ (w : World) (tape : Tape) (i : Input), w.os = os ∧ (w.forCall tape i).Shaped C.prog ∧ i.vars = [] ∧ Input.okWide C.prog (w.forCall tape i) .any w.heap.size f i ∧
      s.pre6 enc C.prog fn [] false (w.forCall tape i).memory i.args ∧ ({} : Assume).holds C.prog (lone (Frame.enter C.prog f i.args .normal) [] (w.forCall tape i)))
    (hl : laidOutB C.prog = true) (hr : ∀ t ∈ fn.params.toList, C.prog.readableRec t = true ∧ t < C.prog.types.size)
    (hres : fn.resultTypes = #[tb]) (htb : C.prog.underlying tb = some .bool) (hvars : s.vars = [])
    (walk : ∀ (W : World) (base : Nat) (args : Array Value) (ds : List (DataW H)) (p : List MemPlace),
      (∀ (j : Nat) t v, fn.params[j]? = some t → args[j]? = some v → Value.okWide C.prog W .any base t v) →
      DataW.TrodAll enc C.prog W 0 (fun _ => true) true fn.params.toList args.toList ds p →
      s.fn H (ds ++ []) = { results := [.lit (.bool true)], args := ds } ∧
      Calls C.prog f args W fun e w' => e = .returned (.bool true) ∧ Below W.heap.size W w') :
    ReturnsInHanded {} C os f .any (s.pre6 enc C.prog fn [] false) (s.post enc C.prog fn false true false false) := by
  refine returnsInHanded_of_change (C := C) own started noInit hfn witness ?_
  intro W base args ds gs before hval hW _ _
  have hW' := hW
  obtain ⟨p, q, hA, hV, rfl, hfz, hnd⟩ := hW
  rw [hvars] at hV
  obtain ⟨rfl, rfl⟩ := trodVars_none hV
  obtain ⟨hspec, hcalls⟩ := walk W base args ds p hval hA
  exact hcalls.mono fun e W' ⟨he, hb⟩ => ⟨_, he, law_post hl hr hres htb hvars hspec hW' hb⟩

/-- What lay below a callee's first block reads on as it did: the walk uses both as rules. -/
theorem bcell {B : Nat} {W w1 : World} (hb : Below B W w1) : (∀ b o, b < B → w1.cell? ⟨b, o, none⟩ = W.cell? ⟨b, o, none⟩) ∧ (∀ b o, b < B → w1.frozen? ⟨b, o, none⟩ = W.frozen? ⟨b, o, none⟩) :=
  ⟨fun b o h => hb.cell (p := ⟨b, o, none⟩) h, fun b o h => hb.frozen (p := ⟨b, o, none⟩) h⟩

theorem grow_trans {a b c : World} (h : Below a.heap.size a b) (k : Below b.heap.size b c) : Below a.heap.size a c := h.trans (k.mono h.size)
theorem grow_alloc (w : World) (o : Obj) : Below w.heap.size w (w.alloc o) := (Below.refl _ _).alloc (Nat.le_refl _) _
theorem grow_drewN (w : World) (n : Nat) : Below w.heap.size w (w.drewN n) := ⟨rfl, rfl, rfl, Nat.le_refl _, fun _ _ => rfl⟩

theorem ret_int {k : IntKind} {a b : Int} (h : a = b) : Ending.returned (.int k a) = .returned (.int k b) := by rw [h]

theorem quiet_same {P : Program} {f : FuncId} {args : Array Value} {w : World} {n : Nat} {v : Value} (h : Calls P f args (w.drewN n) fun e w' => e = .returned v ∧ w.drewN n = w') :
    Calls P f args (w.drewN n) fun e w'' => e = .returned v ∧ ∃ m, w'' = w.drewN m := h.mono fun _ _ ⟨he, hm⟩ => ⟨he, n, hm.symm⟩

theorem own : ownKnob Tryz.prog.godebug = none := by kernel_rfl
theorem laidOut : laidOutB Tryz.prog = true := by kernel_rfl

/-! ### the arguments opened, by kind -/
section
variable {H : Type} {enc : TypeId × Value → H} {W : World} {base b0 : Nat} {v : Value} {d : DataW H} {ps : List MemPlace}
open Go.Joins Go.ChangeMaps
/-- The bounds of an int. -/
def I64 (n : Int) : Prop := -9223372036854775808 ≤ n ∧ n ≤ 9223372036854775807
theorem I64_of_wf {n : Int} (h : (Lit.int .i64 n).wf = true) : I64 n := by
  simpa [Lit.wf, IntKind.min, IntKind.max, IntKind.bits, IntKind.signed, I64] using h
theorem open_i (hv : Value.okWide Tryz.prog W .any b0 3 v) (h : DataW.Trod enc Tryz.prog W base (fun _ => true) true 3 v d ps) : ∃ n, v = .int .i64 n ∧ I64 n := by
  obtain ⟨n, rfl, _, _, hw⟩ := open_int Tryz.underlying3 hv h
  exact ⟨n, rfl, I64_of_wf hw⟩
theorem open_s (hv : Value.okWide Tryz.prog W .any b0 9 v) (h : DataW.Trod enc Tryz.prog W base (fun _ => true) true 9 v d ps) : ∃ s, v = .string s ∧ s.size ≤ maxLen := by
  obtain ⟨s, rfl, _, _, hw⟩ := open_string Tryz.underlying9 hv h
  exact ⟨s, rfl, hw⟩
section
variable {P : Program} {spare : Nat → Bool} {held : Bool}
/-- A struct's field of one cell, read: the cell and its own reading. -/
theorem trod_one {t : TypeId} {fs : Array Field} {fuel : Nat} {cs : List Value} {x : DataW H × List MemPlace} (hs : P.underlying t = some (.struct fs)) (h : DataW.trod enc P W base spare held fuel t cs = some x)
    (j : Nat) (f : Field) (hf : fs[j]? = some f) (h1 : P.cellsOf f.type = 1) (c : Value) (hc : cs[f.offset]? = some c) : ∃ y n, DataW.trod enc P W base spare held n f.type [c] = some y := by
  obtain ⟨xs, n, _, _, _, hlen, hg⟩ := DataW.trod_struct hs h
  have hj : j < fs.size := (Array.getElem?_eq_some_iff.1 hf).1
  have g := hg j f hf
  have hx : xs[j]? = some (xs[j]'(by omega)) := List.getElem?_eq_getElem (by omega)
  obtain ⟨ho, hv⟩ := List.getElem?_eq_some_iff.1 hc
  have e : (cs.drop f.offset).take (P.cellsOf f.type) = [c] := by
    rw [h1, List.drop_eq_getElem_cons ho, hv]; rfl
  rw [e, hx] at g
  exact ⟨_, _, g⟩
end
end
end Go.Proofs.YtnadeddkogapoaaGreatDoor

/- Plain functions that the program's small functions compute; no program in sight. Conditions: none. -/
namespace Go.Proofs.YtnadeddkogapoaaGreatDoor
open Go.RowKit

/-- A number lies within bounds. -/
def inB (x a b : Int) : Bool := decide (a ≤ x) && decide (x ≤ b)
theorem inB_iff {x a b : Int} : inB x a b = true ↔ a ≤ x ∧ x ≤ b := by simp [inB]
theorem inB_not {x a b : Int} : inB x a b = false ↔ ¬ (a ≤ x ∧ x ≤ b) := by rw [← inB_iff]; simp
/-- A breeze is valid. -/
def windB (f s : Int) : Bool := inB f 0 7 && inB s 0 120 && (decide (0 < s) || f == 0)
/-- A byte list holds small letters alone. -/
def lowers (l : List UInt8) : Bool := l.all fun c => 97 ≤ c && c ≤ 122
/-- A word. -/
def wordB (l : List UInt8) : Bool := lowers l && inB l.length 1 10
/-- A fuel is valid. -/
def fuelB (i : Int) (n : List UInt8) (r l o : Int) : Bool := inB i 1 99 && wordB n && inB r 1 1000 && inB l 10 400 && inB o 1 500
/-- The turn between two directions. -/
def turnN (a b : Int) : Int := min (max (a - b) (b - a)) (8 - max (a - b) (b - a))
/-- The push towards a turn. -/
def tabN (k : Int) : Int := if k = 0 then 100 else if k = 1 then 71 else if k = 2 then 0 else if k = 3 then -71 else -100
/-- The push of a breeze towards a direction. -/
def pushN (f s to : Int) : Int := (s * tabN (turnN ((f + 4) % 8) to)).tdiv 100
theorem turn_cases {a b : Int} (h1 : 0 ≤ a) (h2 : a ≤ 7) (h3 : 0 ≤ b) (h4 : b ≤ 7) : turnN a b = 0 ∨ turnN a b = 1 ∨ turnN a b = 2 ∨ turnN a b = 3 ∨ turnN a b = 4 := by
  unfold turnN; omega
theorem turn_le {a b : Int} (h1 : 0 ≤ a) (h2 : a ≤ 7) (h3 : 0 ≤ b) (h4 : b ≤ 7) : 0 ≤ turnN a b ∧ turnN a b ≤ 4 := by
  unfold turnN; omega
theorem tab_le (k : Int) : -100 ≤ tabN k ∧ tabN k ≤ 100 := by
  unfold tabN; omega
theorem mul_tab_le (s k : Int) (h0 : 0 ≤ s) (h1 : s ≤ 120) : -12000 ≤ s * tabN k ∧ s * tabN k ≤ 12000 := by
  have := tab_le k
  have a : s * tabN k ≤ s * 100 := Int.mul_le_mul_of_nonneg_left this.2 h0
  have b : s * (-100) ≤ s * tabN k := Int.mul_le_mul_of_nonneg_left this.1 h0
  omega
theorem windB_iff {f s : Int} : windB f s = true ↔ (0 ≤ f ∧ f ≤ 7) ∧ (0 ≤ s ∧ s ≤ 120) ∧ (0 < s ∨ f = 0) := by
  simp [windB, inB_iff, and_assoc]
theorem lowers_of {s : ByteArray} (h : ∀ j (h : j < s.size), 97 ≤ s[j].toNat ∧ s[j].toNat ≤ 122) : lowers s.data.toList = true := by
  unfold lowers
  rw [List.all_eq_true]
  intro c hc
  obtain ⟨j, hj, rfl⟩ := List.mem_iff_getElem.1 hc
  have := h j (by simpa using hj)
  simp only [UInt8.le_iff_toNat_le, Bool.and_eq_true, decide_eq_true_eq]
  exact this
theorem lowers_not {s : ByteArray} {k : Nat} (hk : k < s.size) (h : ¬ (97 ≤ s[k].toNat ∧ s[k].toNat ≤ 122)) : lowers s.data.toList = false := by
  cases e : lowers s.data.toList with
  | false => rfl
  | true =>
    unfold lowers at e
    rw [List.all_eq_true] at e
    have := e s[k] (List.mem_iff_getElem.2 ⟨k, by simpa using hk, rfl⟩)
    simp only [UInt8.le_iff_toNat_le, Bool.and_eq_true, decide_eq_true_eq] at this
    exact absurd this h
/-- The speed of fire in a fuel of rate r and limit l. -/
def speedN (r l m s : Int) : Int :=
  if l ≤ m then 0 else if 0 ≤ s then (r * (l - m) / l * (100 + 4 * s)) / 100 else (100 * (r * (l - m) / l)) / (100 - 2 * s)
theorem tdiv_bound (a b : Int) : -(a.natAbs : Int) ≤ a.tdiv b ∧ a.tdiv b ≤ a.natAbs := by
  have := Int.natAbs_tdiv_le_natAbs a b
  omega
theorem fuelB_iff {i : Int} {n : List UInt8} {r l o : Int} : fuelB i n r l o = true ↔ inB i 1 99 = true ∧ wordB n = true ∧ (1 ≤ r ∧ r ≤ 1000) ∧ (10 ≤ l ∧ l ≤ 400) ∧ (1 ≤ o ∧ o ≤ 500) := by
  simp [fuelB, inB_iff, and_assoc]
theorem mul_bound {a b x y : Int} (h1 : 0 ≤ a) (h2 : a ≤ x) (h3 : 0 ≤ b) (h4 : b ≤ y) : 0 ≤ a * b ∧ a * b ≤ x * y :=
  ⟨Int.mul_nonneg h1 h3, Int.mul_le_mul h2 h4 h3 (by omega)⟩
theorem flat_bound {r l m : Int} (r1 : 1 ≤ r) (r2 : r ≤ 1000) (l1 : 10 ≤ l) (l2 : l ≤ 400) (m1 : 0 ≤ m) (h : ¬ l ≤ m) : (0 ≤ r * (l - m) ∧ r * (l - m) ≤ 400000) ∧ 0 ≤ r * (l - m) / l ∧ r * (l - m) / l ≤ 400000 := by
  have a := mul_bound (a := r) (b := l - m) (x := 1000) (y := 400) (by omega) r2 (by omega) (by omega)
  have b : 0 ≤ r * (l - m) / l := Int.ediv_nonneg a.1 (by omega)
  have c : r * (l - m) / l ≤ r * (l - m) := Int.ediv_le_self _ a.1
  omega
theorem up_bound {v s : Int} (v1 : 0 ≤ v) (v2 : v ≤ 400000) (s1 : 0 ≤ s) (s2 : s ≤ 45) : 0 ≤ v * (100 + 4 * s) ∧ v * (100 + 4 * s) ≤ 112000000 := by
  have := mul_bound (a := v) (b := 100 + 4 * s) (x := 400000) (y := 280) v1 v2 (by omega) (by omega)
  omega
theorem down_bound {v s : Int} (v1 : 0 ≤ v) (v2 : v ≤ 400000) (s1 : -45 ≤ s) (s2 : s < 0) : 0 ≤ 100 * v / (100 - 2 * s) ∧ 100 * v / (100 - 2 * s) ≤ 40000000 := by
  have b : 0 ≤ 100 * v / (100 - 2 * s) := Int.ediv_nonneg (by omega) (by omega)
  have c : 100 * v / (100 - 2 * s) ≤ 100 * v := Int.ediv_le_self _ (by omega)
  omega
/-- The greatest moisture up to a number at which fire has a speed. -/
def dampF (r l s v : Int) : Nat → Option Int
  | 0 => if v ≤ speedN r l 0 s then some 0 else none
  | k + 1 => if v ≤ speedN r l (k + 1) s then some (k + 1) else dampF r l s v k
/-- The same, from -1 on. -/
def dampAt (r l s v m : Int) : Option Int := if m < 0 then none else dampF r l s v m.toNat
theorem dampAt_hit {r l s v m : Int} (h : 0 ≤ m) (hv : v ≤ speedN r l m s) : dampAt r l s v m = some m := by
  obtain ⟨k, rfl⟩ := Int.eq_ofNat_of_zero_le h
  unfold dampAt
  rw [if_neg (by omega), Int.toNat_natCast]
  cases k with
  | zero => simp only [dampF, Int.natCast_zero] at *; rw [if_pos hv]
  | succ k => simp only [dampF, Int.natCast_succ] at *; rw [if_pos hv]
theorem dampAt_miss {r l s v m : Int} (h : 0 ≤ m) (hv : ¬ v ≤ speedN r l m s) : dampAt r l s v m = dampAt r l s v (m - 1) := by
  obtain ⟨k, rfl⟩ := Int.eq_ofNat_of_zero_le h
  unfold dampAt
  rw [if_neg (by omega), Int.toNat_natCast]
  cases k with
  | zero => simp only [dampF, Int.natCast_zero] at *; rw [if_neg hv, if_pos (by omega)]
  | succ k => simp only [dampF, Int.natCast_succ] at *; rw [if_neg hv, if_neg (by omega), show ((k : Int) + 1 - 1).toNat = k by omega]
/-- Two results of which the second says whether there is a first. -/
def okR (b : Bool) (n : Int) : Go.Value := if b then .tuple #[.int .i64 n, .bool true] else .tuple #[.int .i64 0, .bool false]
theorem okR_cases (b : Bool) (n : Int) : okR b n = .tuple #[.int .i64 0, .bool false] ∨ ∃ m, okR b n = .tuple #[.int .i64 m, .bool true] := by
  cases b <;> simp [okR]
/-- An optional number as two results. -/
def optR : Option Int → Go.Value
  | some n => .tuple #[.int .i64 n, .bool true]
  | none => .tuple #[.int .i64 0, .bool false]
theorem optR_cases (x : Option Int) : optR x = .tuple #[.int .i64 0, .bool false] ∨ ∃ m, optR x = .tuple #[.int .i64 m, .bool true] := by
  cases x <;> simp [optR]
/-- The checksum of bytes. -/
def sumL (l : List UInt8) : Int := l.foldl (fun h c => (41 * h + (c.toNat : Int) + 1) % 999979) 7
theorem sumL_bd (l : List UInt8) : 0 ≤ sumL l ∧ sumL l ≤ 999978 := by
  unfold sumL
  have key : ∀ (l : List UInt8) (h : Int), 0 ≤ h ∧ h ≤ 999978 → 0 ≤ l.foldl (fun h c => (41 * h + (c.toNat : Int) + 1) % 999979) h ∧ l.foldl (fun h c => (41 * h + (c.toNat : Int) + 1) % 999979) h ≤ 999978 := by
    intro l
    induction l with
    | nil => intro h hh; exact hh
    | cons c l ih => intro h hh; exact ih ((41 * h + (c.toNat : Int) + 1) % 999979) (by omega)
  exact key l 7 (by omega)
theorem take_snoc (s : ByteArray) (k : Nat) (h : k < s.size) : s.data.toList.take (k + 1) = s.data.toList.take k ++ [s[k]] := by
  rw [List.take_succ_eq_append_getElem (by simpa using h)]; rfl
theorem sumL_snoc (s : ByteArray) (k : Nat) (h : k < s.size) : sumL (s.data.toList.take (k + 1)) = (41 * sumL (s.data.toList.take k) + (s[k].toNat : Int) + 1) % 999979 := by
  rw [take_snoc s k h]; simp [sumL]
theorem take_all (s : ByteArray) (k : Nat) (h : ¬ k < s.size) : s.data.toList.take k = s.data.toList := List.take_of_length_le (by simp; omega)
theorem okR_shape (b : Bool) (n : Int) : ∃ m c, okR b n = .tuple #[.int .i64 m, .bool c] := by cases b <;> exact ⟨_, _, rfl⟩
theorem optR_shape (x : Option Int) : ∃ m c, optR x = .tuple #[.int .i64 m, .bool c] := by cases x <;> exact ⟨_, _, rfl⟩
end Go.Proofs.YtnadeddkogapoaaGreatDoor

/- Slices in memory: a slice value that reads as a list of cells; rows that a call owns; no program in sight. Conditions: none. -/
namespace Go.Proofs.YtnadeddkogapoaaGreatDoor
open Go.RowKit
set_option linter.unusedVariables false
set_option linter.unusedSimpArgs false
set_option maxRecDepth 100000

/-- A slice value of n elements of k cells each; its cells lie in memory. -/
def Sl (w : World) (k : Nat) (v : Value) (n : Nat) (cs : List Value) : Prop :=
  ∃ A c, v = .slice A n c ∧ n ≤ c ∧ c ≤ maxLen ∧ cs.length = n * k ∧ (0 < cs.length → ∃ b off, A = some ⟨b, off, none⟩ ∧ ∀ j u, cs[j]? = some u → w.cell? ⟨b, off + j, none⟩ = some u)

section
variable {w w' : World} {k n : Nat} {v : Value} {cs : List Value} {base : Nat} {e : TypeId}

theorem Sl.below (h : Sl w k v n cs) (hb : Below w.heap.size w w') : Sl w' k v n cs := by
  obtain ⟨A, c, rfl, h1, h2, h3, h4⟩ := h
  refine ⟨A, c, rfl, h1, h2, h3, fun hp => ?_⟩
  obtain ⟨b, off, e, hc⟩ := h4 hp
  refine ⟨b, off, e, fun j u hu => ?_⟩
  have hcell := hc j u hu
  rw [hb.cell (World.block_lt_of_cell? w _ hcell)]
  exact hcell

/-- What lies is kept where a block of the caller's own is written that is not this one. -/
theorem Sl.kept {row : Option Nat} (h : Sl w k v n cs) (hg : w.grownBy w' row) (hne : v.ownBlock = none ∨ v.ownBlock ≠ row) : Sl w' k v n cs := by
  obtain ⟨A, c, rfl, h1, h2, h3, h4⟩ := h
  refine ⟨A, c, rfl, h1, h2, h3, fun hp => ?_⟩
  obtain ⟨b, off, rfl, hc⟩ := h4 hp
  refine ⟨b, off, rfl, fun j u hu => ?_⟩
  exact hg.cell (hc j u hu) (by rcases hne with h | h <;> simp_all [Value.ownBlock])

theorem Sl.of_own (h : w.ownsRow base e k v n cs) : Sl w k v n cs := by
  have hl := h.1
  rcases h.2 with ⟨rfl, rfl⟩ | ⟨g, cap, cur, rfl, _, hg, hn, hm, hs, ht⟩
  · exact ⟨none, 0, rfl, Nat.le_refl _, by unfold maxLen; omega, hl, fun hp => by omega⟩
  · refine ⟨_, cap, rfl, hn, hm, hl, fun _ => ⟨g, 0, rfl, fun j u hu => ?_⟩⟩
    rw [cell_of_row w g (0 + j) cur e (0, 0) hg, Nat.zero_add]
    rw [← ht, List.getElem?_take] at hu
    split at hu
    · simpa using hu
    · cases hu

theorem own_below (h : w.ownsRow base e k v n cs) (hb : Below w.heap.size w w') : w'.ownsRow base e k v n cs := by
  refine ⟨h.1, ?_⟩
  rcases h.2 with hn | ⟨g, cap, cur, rfl, hb', hg, rest⟩
  · exact .inl hn
  · refine .inr ⟨g, cap, cur, rfl, hb', ?_, rest⟩
    rw [hb.block g (Array.getElem?_eq_some_iff.1 hg).1]
    exact hg

theorem own_base (h : w.ownsRow base e k v n cs) {base' : Nat} (hb : base' ≤ base) : w.ownsRow base' e k v n cs := by
  refine ⟨h.1, ?_⟩
  rcases h.2 with hn | ⟨g, cap, cur, rfl, hb', rest⟩
  · exact .inl hn
  · exact .inr ⟨g, cap, cur, rfl, Nat.le_trans hb hb', rest⟩

theorem own_nil (w : World) (base : Nat) (e : TypeId) (k : Nat) : w.ownsRow base e k (.slice none 0 0) 0 [] := World.ownsRow_nil w base e k

/-- An element of k cells, read at its place. -/
theorem Sl.at_ {α : Type} {enc : α → List Value} {m : Nat} (hm : ∀ x, (enc x).length = m) {xs : List α} {A : Option Addr} {c : Nat} (h : Sl w m (.slice A n c) n (xs.flatMap enc)) (hn : xs.length = n) (h0 : 0 < m) {i : Nat} (hi : i < n) :
    ∃ b off x, A = some ⟨b, off, none⟩ ∧ xs[i]? = some x ∧ ∀ j u, (enc x)[j]? = some u → w.cell? ⟨b, off + i * m + j, none⟩ = some u := by
  obtain ⟨A', c', he, _, _, hl, hc⟩ := h
  injection he with e1 _ e2
  subst e1 e2
  have hpos : 0 < (xs.flatMap enc).length := by rw [hl]; exact Nat.mul_pos (by omega) h0
  obtain ⟨b, off, rfl, hcell⟩ := hc hpos
  have hx : xs[i]? = some (xs[i]'(by omega)) := List.getElem?_eq_getElem (by omega)
  refine ⟨b, off, _, rfl, hx, fun j u hu => ?_⟩
  have key : ∀ (xs : List α) (i : Nat) (x : α), xs[i]? = some x → ∀ j u, (enc x)[j]? = some u → (xs.flatMap enc)[i * m + j]? = some u := by
    intro xs
    induction xs with
    | nil => intro i x hx; simp at hx
    | cons y ys ih =>
      intro i x hx j u hu
      rw [List.flatMap_cons]
      cases i with
      | zero =>
        simp only [List.getElem?_cons_zero, Option.some.injEq] at hx
        subst hx
        rw [Nat.zero_mul, Nat.zero_add, List.getElem?_append_left (List.getElem?_eq_some_iff.1 hu).1]
        exact hu
      | succ i =>
        simp only [List.getElem?_cons_succ] at hx
        have e : (i + 1) * m + j = (enc y).length + (i * m + j) := by rw [hm, Nat.succ_mul]; omega
        rw [e, List.getElem?_append_right (by omega), Nat.add_sub_cancel_left]
        exact ih i x hx j u hu
  have := hcell _ _ (key xs i _ hx j u hu)
  rwa [← Nat.add_assoc] at this

/-- An element of one cell. -/
theorem Sl.at1 {α : Type} {f : α → Value} {xs : List α} {A : Option Addr} {c : Nat} (h : Sl w 1 (.slice A n c) n (xs.map f)) (hn : xs.length = n) {i : Nat} (hi : i < n) :
    ∃ b off x, A = some ⟨b, off, none⟩ ∧ xs[i]? = some x ∧ w.cell? ⟨b, off + i, none⟩ = some (f x) := by
  obtain ⟨A', c', he, _, _, hl, hc⟩ := h
  injection he with e1 _ e2
  subst e1 e2
  have hx : xs[i]? = some (xs[i]'(by omega)) := List.getElem?_eq_getElem (by omega)
  obtain ⟨b, off, rfl, hcell⟩ := hc (by simp; omega)
  exact ⟨b, off, _, rfl, hx, hcell i _ (by simp [hx])⟩

theorem flat_at {α : Type} {enc : α → List Value} {m : Nat} (hm : ∀ x, (enc x).length = m) {xs : List α} {i : Nat} {x : α} (hx : xs[i]? = some x) (j : Nat) (u : Value) (hu : (enc x)[j]? = some u) : (xs.flatMap enc)[i * m + j]? = some u := by
  have key : ∀ (xs : List α) (i : Nat) (x : α), xs[i]? = some x → ∀ j u, (enc x)[j]? = some u → (xs.flatMap enc)[i * m + j]? = some u := by
    intro xs
    induction xs with
    | nil => intro i x hx; simp at hx
    | cons y ys ih =>
      intro i x hx j u hu
      rw [List.flatMap_cons]
      cases i with
      | zero =>
        simp only [List.getElem?_cons_zero, Option.some.injEq] at hx
        subst hx
        rw [Nat.zero_mul, Nat.zero_add, List.getElem?_append_left (List.getElem?_eq_some_iff.1 hu).1]
        exact hu
      | succ i =>
        simp only [List.getElem?_cons_succ] at hx
        have e : (i + 1) * m + j = (enc y).length + (i * m + j) := by rw [hm, Nat.succ_mul]; omega
        rw [e, List.getElem?_append_right (by omega), Nat.add_sub_cancel_left]
        exact ih i x hx j u hu
  exact key xs i x hx j u hu
theorem flat_length {α : Type} {enc : α → List Value} {m : Nat} (hm : ∀ x, (enc x).length = m) (xs : List α) : (xs.flatMap enc).length = xs.length * m := by
  induction xs with
  | nil => simp
  | cons x xs ih => rw [List.flatMap_cons, List.length_append, ih, hm, List.length_cons, Nat.succ_mul]; omega
theorem Sl.len (h : Sl w k v n cs) : n ≤ maxLen := by
  obtain ⟨_, _, _, h1, h2, _⟩ := h; omega
theorem Sl.val (h : Sl w k v n cs) : ∃ A c, v = .slice A n c := by
  obtain ⟨A, c, h, _⟩ := h; exact ⟨A, c, h⟩
end

theorem grownBy_trans {w w1 w2 : World} {r : Option Nat} (h : w.grownBy w1 r) (k : w1.grownBy w2 r) : w.grownBy w2 r :=
  ⟨k.os.trans h.os, k.tape.trans h.tape, k.output.trans h.output, Nat.le_trans h.size k.size, fun i hi hr => (k.block i (Nat.lt_of_lt_of_le hi h.size) hr).trans (h.block i hi hr)⟩
theorem grownBy_of_below {w w' : World} {r : Option Nat} (h : Below w.heap.size w w') : w.grownBy w' r := ⟨h.os, h.tape, h.output, h.size, fun i hi _ => h.block i hi⟩
/-- What an owned row is where it holds something. -/
theorem own_form {w : World} {base k n : Nat} {e : TypeId} {v : Value} {cs : List Value} (h : w.ownsRow base e k v n cs) : ∃ A c, v = .slice A n c ∧ (0 < n → ∃ g, A = some ⟨g, 0, none⟩ ∧ base ≤ g ∧ g < w.heap.size) := by
  rcases h.2 with ⟨rfl, rfl⟩ | ⟨g, cap, cur, rfl, hb, hg, _⟩
  · exact ⟨none, 0, rfl, fun h => by omega⟩
  · exact ⟨_, cap, rfl, fun _ => ⟨g, rfl, hb, (Array.getElem?_eq_some_iff.1 hg).1⟩⟩

/-! ### a row filled from the front -/
theorem prefix_set {cs fl : List Value} {k : Nat} {u : Value} (hp : ∀ j, j < k → cs[j]? = fl[j]?) (hk : k < cs.length) (hu : fl[k]? = some u) : ∀ j, j < k + 1 → (cs.set k u)[j]? = fl[j]? := by
  intro j hj
  rw [List.getElem?_set]
  split
  · rename_i e; subst e; first | rw [if_pos hk, hu] | rw [hu]
  · exact hp j (by omega)
theorem prefix_all {cs fl : List Value} {n : Nat} (hp : ∀ j, j < n → cs[j]? = fl[j]?) (h1 : cs.length = n) (h2 : fl.length = n) : cs = fl := by
  apply List.ext_getElem?
  intro j
  rcases Nat.lt_or_ge j n with h | h
  · exact hp j h
  · rw [List.getElem?_eq_none (by omega), List.getElem?_eq_none (by omega)]
end Go.Proofs.YtnadeddkogapoaaGreatDoor

/- The arguments that are slices, opened: a slice of ints, of structs, a terrain. Conditions: none. -/
namespace Go.Proofs.YtnadeddkogapoaaGreatDoor
open Go.ChangeShapes Go.WideShapes Go.ChangeAt Go.RowKit Go.Deep
set_option linter.unusedVariables false
set_option linter.unusedSimpArgs false
set_option maxRecDepth 100000

section
variable {H : Type} {enc : TypeId × Value → H} {P : Program} {W : World} {base b0 : Nat} {v : Value} {d : DataW H} {ps : List MemPlace} {held : Bool}

theorem add_lit' (b off : Nat) (i : Nat) : (⟨b, off, none⟩ : Addr).add i = ⟨b, off + i, none⟩ := by
  unfold Addr.add; split <;> simp_all

/-- A slice of whatever elements, opened: each element's cells with their reading. -/
theorem open_slc {t e : TypeId} {k : Nat} (ht : P.underlying t = some (.slice e)) (hk : P.cellsOf e = k) {fuel : Nat} {x : DataW H × List MemPlace} (hf : DataW.trod enc P W base (fun _ => true) held fuel t [v] = some x) :
    ∃ (n : Nat) (C : Nat → List Value), Sl W k v n ((List.range n).flatMap C) ∧ ∀ i, i < n → (C i).length = k ∧ ∃ y m, DataW.trod enc P W base (fun _ => true) held m e (C i) = some y := by
  rcases open_slice ht hf with ⟨hcs, _⟩ | ⟨a, len, cap, m, n, D, Pl, hcs, _, hl, hm, hmm, _, hx⟩
  · simp at hcs
    subst hcs
    exact ⟨0, fun _ => [], ⟨none, 0, rfl, Nat.le_refl _, by unfold maxLen; omega, by simp, by simp⟩, fun i hi => by omega⟩
  · simp at hcs
    subst hcs
    simp only [if_true] at hmm
    subst hmm
    rw [hk] at hx
    have hC : ∃ C : Nat → List Value, ∀ i, i < len → W.cells? base (a.add (i * k)) k = some (C i) ∧ ∃ y m, DataW.trod enc P W base (fun _ => true) held m e (C i) = some y := by
      refine ⟨fun i => (W.cells? base (a.add (i * k)) k).getD [], fun i hi => ?_⟩
      obtain ⟨cs', h1, h2⟩ := hx i (by omega)
      simp only [h1, Option.getD_some]
      exact ⟨trivial, _, _, h2⟩
    obtain ⟨C, hC⟩ := hC
    have hlen : ∀ i, i < len → (C i).length = k := fun i hi => (World.cells?_some (hC i hi).1).2.1
    refine ⟨_, C, ⟨some a, _, rfl, hl, hm, ?_, fun hp => ?_⟩, fun i hi => ⟨hlen i hi, (hC i hi).2⟩⟩
    · have : ∀ (l : List Nat), (∀ i ∈ l, (C i).length = k) → (l.flatMap C).length = l.length * k := by
        intro l
        induction l with
        | nil => intro _; simp
        | cons x xs ih => intro hh; rw [List.flatMap_cons, List.length_append, ih (fun i hi => hh i (by simp [hi])), hh x (by simp), List.length_cons, Nat.succ_mul]; omega
      rw [this _ (fun i hi => hlen i (by simpa using hi)), List.length_range]
    · have hlp : 0 < len := by
        rcases Nat.eq_zero_or_pos len with h0 | h0
        · subst h0; simp at hp
        · exact h0
      have hkp : 0 < k := by
        rcases Nat.eq_zero_or_pos k with h0 | h0
        · exfalso
          have : (List.range len).flatMap C = [] := by
            rw [List.flatMap_eq_nil_iff]
            intro i hi
            exact List.eq_nil_of_length_eq_zero (by rw [hlen i (by simpa using hi), h0])
          rw [this] at hp; simp at hp
        · exact h0
      have h00 := (World.cells?_some (hC 0 hlp).1).2.2 0 hkp
      have hspot : a.spot = none := by
        have hz : (a.add (0 * k)).add 0 = a := by simp [Addr.add]
        rw [hz] at h00
        have hl0 := hlen 0 hlp
        rw [List.getElem?_eq_getElem (by omega)] at h00
        unfold World.cell? at h00
        split at h00
        · split at h00
          · cases h00
          · rename_i hs; simpa using hs
        · cases h00
      obtain ⟨b, off, sp⟩ := a
      simp only at hspot
      subst hspot
      refine ⟨b, off, rfl, fun j u hu => ?_⟩
      -- the j-th cell lies in element j / k at place j % k
      have key : ∀ n, n ≤ len → ∀ j u, ((List.range n).flatMap C)[j]? = some u → W.cell? ⟨b, off + j, none⟩ = some u := by
        intro n
        induction n with
        | zero => intro _ j u hu; simp at hu
        | succ n ih =>
          intro hn j u hu
          rw [List.range_succ, List.flatMap_append] at hu
          have hl' : ((List.range n).flatMap C).length = n * k := by
            have : ∀ (l : List Nat), (∀ i ∈ l, (C i).length = k) → (l.flatMap C).length = l.length * k := by
              intro l
              induction l with
              | nil => intro _; simp
              | cons x xs ih => intro hh; rw [List.flatMap_cons, List.length_append, ih (fun i hi => hh i (by simp [hi])), hh x (by simp), List.length_cons, Nat.succ_mul]; omega
            rw [this _ (fun i hi => hlen i (by have := List.mem_range.1 hi; omega)), List.length_range]
          rcases Nat.lt_or_ge j (n * k) with hj | hj
          · rw [List.getElem?_append_left (by omega)] at hu
            exact ih (by omega) j u hu
          · rw [List.getElem?_append_right (by omega), hl'] at hu
            simp only [List.flatMap_cons, List.flatMap_nil, List.append_nil] at hu
            obtain ⟨_, _, hat⟩ := World.cells?_some (hC n (by omega)).1
            have hjk : j - n * k < k := by have h1 := (List.getElem?_eq_some_iff.1 hu).1; have h2 := hlen n (by omega); omega
            have := hat (j - n * k) hjk
            rw [hu, add_lit', add_lit'] at this
            rwa [show off + n * k + (j - n * k) = off + j by omega] at this
      exact key len (Nat.le_refl _) j u hu

theorem open_slk {t e : TypeId} {k : Nat} (ht : P.underlying t = some (.slice e)) (hk : P.cellsOf e = k) (hv : Value.okWide P W .any b0 t v) (h : DataW.Trod enc P W base (fun _ => true) held t v d ps) :
    ∃ (n : Nat) (C : Nat → List Value), Sl W k v n ((List.range n).flatMap C) ∧ ∀ i, i < n → (C i).length = k ∧ ∃ y m, DataW.trod enc P W base (fun _ => true) held m e (C i) = some y := by
  obtain ⟨a0, len, cap, rfl⟩ := okWide_slice ht hv
  obtain ⟨fuel, hf⟩ := h
  exact open_slc ht hk (by simpa [Value.cells] using hf)

/-- Elements read one by one are a list. -/
theorem list_of {α : Type} {enc : α → List Value} {p : α → Prop} {C : Nat → List Value} : ∀ n, (∀ i, i < n → ∃ x, C i = enc x ∧ p x) → ∃ xs : List α, xs.length = n ∧ (List.range n).flatMap C = xs.flatMap enc ∧ ∀ x ∈ xs, p x
  | 0, _ => ⟨[], rfl, rfl, by simp⟩
  | n + 1, h => by
    obtain ⟨xs, h1, h2, h3⟩ := list_of n (fun i hi => h i (by omega))
    obtain ⟨x, hx, hp⟩ := h n (by omega)
    refine ⟨xs ++ [x], by simp [h1], ?_, ?_⟩
    · rw [List.range_succ, List.flatMap_append, h2, List.flatMap_append]
      simp [hx]
    · intro y hy
      rcases List.mem_append.1 hy with hy | hy
      · exact h3 y hy
      · rw [List.mem_singleton.1 hy]; exact hp
theorem flatMap_one {α : Type} (f : α → Value) (xs : List α) : xs.flatMap (fun x => [f x]) = xs.map f := by
  induction xs with
  | nil => rfl
  | cons x xs ih => rw [List.flatMap_cons, ih]; rfl

theorem open_isc {fuel : Nat} {x : DataW H × List MemPlace} (hf : DataW.trod enc Tryz.prog W base (fun _ => true) true fuel 57 [v] = some x) :
    ∃ zs : List Int, Sl W 1 v zs.length (zs.map (Value.int .i64)) ∧ ∀ z ∈ zs, I64 z := by
  obtain ⟨n, C, hs, hC⟩ := open_slc Tryz.underlying57 (show Tryz.prog.cellsOf 3 = 1 by kernel_rfl) hf
  obtain ⟨zs, h1, h2, h3⟩ := list_of (enc := fun z => [Value.int .i64 z]) (p := I64) (C := C) n (fun i hi => by
    obtain ⟨_, y, m, ht⟩ := hC i hi
    obtain ⟨z, e, _, hw⟩ := DataW.trod_int Tryz.underlying3 ht
    exact ⟨z, e, I64_of_wf hw⟩)
  subst h1
  rw [h2, flatMap_one] at hs
  exact ⟨zs, hs, h3⟩
theorem open_is (hv : Value.okWide Tryz.prog W .any b0 57 v) (h : DataW.Trod enc Tryz.prog W base (fun _ => true) true 57 v d ps) :
    ∃ zs : List Int, Sl W 1 v zs.length (zs.map (Value.int .i64)) ∧ ∀ z ∈ zs, I64 z := by
  obtain ⟨a0, len, cap, rfl⟩ := okWide_slice Tryz.underlying57 hv
  obtain ⟨fuel, hf⟩ := h
  exact open_isc (by simpa [Value.cells] using hf)
end
end Go.Proofs.YtnadeddkogapoaaGreatDoor

/- A slice of one's own at whatever offset: what an append of any slice makes of it, what a cut of its head leaves. Conditions: as each states. -/
namespace Go.Proofs.YtnadeddkogapoaaGreatDoor
open Go.RowKit
set_option linter.unusedVariables false
set_option linter.unusedSimpArgs false
set_option maxRecDepth 100000

/-- A slice value of n elements of k cells each in a block of one's own (from base on), at whatever offset. -/
def Qw (w : World) (base : Nat) (e : TypeId) (k : Nat) (v : Value) (n : Nat) (xs : List Value) : Prop :=
  xs.length = n * k ∧ ((v = .slice none 0 0 ∧ n = 0) ∨
    ∃ g off cap cur, v = .slice (some ⟨g, off, none⟩) n cap ∧ base ≤ g ∧ w.heap[g]? = some (.cells cur e (0, 0)) ∧ n ≤ cap ∧ cap ≤ maxLen ∧ off + cap * k ≤ cur.size ∧ (cur.toList.drop off).take (n * k) = xs)

section
variable {w w' : World} {base : Nat} {e : TypeId} {k n : Nat} {v : Value} {xs : List Value}

theorem Qw.of_own (h : w.ownsRow base e k v n xs) : Qw w base e k v n xs := by
  refine ⟨h.1, ?_⟩
  rcases h.2 with hn | ⟨g, cap, cur, rfl, hb, hg, hn, hm, hs, ht⟩
  · exact .inl hn
  · exact .inr ⟨g, 0, cap, cur, rfl, hb, hg, hn, hm, by omega, by simpa using ht⟩
theorem Qw.nil (w : World) (base : Nat) (e : TypeId) (k : Nat) : Qw w base e k (.slice none 0 0) 0 [] := ⟨by simp, .inl ⟨rfl, rfl⟩⟩
theorem Qw.below (h : Qw w base e k v n xs) (hb : Below w.heap.size w w') : Qw w' base e k v n xs := by
  refine ⟨h.1, ?_⟩
  rcases h.2 with hn | ⟨g, off, cap, cur, rfl, hb', hg, rest⟩
  · exact .inl hn
  · refine .inr ⟨g, off, cap, cur, rfl, hb', ?_, rest⟩
    rw [hb.block g (Array.getElem?_eq_some_iff.1 hg).1]
    exact hg
theorem Qw.lower (h : Qw w base e k v n xs) {base' : Nat} (hb : base' ≤ base) : Qw w base' e k v n xs := by
  refine ⟨h.1, ?_⟩
  rcases h.2 with hn | ⟨g, off, cap, cur, rfl, hb', rest⟩
  · exact .inl hn
  · exact .inr ⟨g, off, cap, cur, rfl, Nat.le_trans hb hb', rest⟩
theorem Qw.kept {row : Option Nat} (h : Qw w base e k v n xs) (hg : w.grownBy w' row) (hne : ∀ j, v.ownBlock = some j → some j ≠ row) : Qw w' base e k v n xs := by
  refine ⟨h.1, ?_⟩
  rcases h.2 with hn | ⟨g, off, cap, cur, rfl, hb', hg', rest⟩
  · exact .inl hn
  · refine .inr ⟨g, off, cap, cur, rfl, hb', ?_, rest⟩
    rw [hg.block g (Array.getElem?_eq_some_iff.1 hg').1 (hne g rfl)]
    exact hg'
theorem Qw.lt (h : Qw w base e k v n xs) : ∀ j, v.ownBlock = some j → base ≤ j ∧ j < w.heap.size := by
  intro j hj
  rcases h.2 with ⟨rfl, _⟩ | ⟨g, off, cap, cur, rfl, hb', hg, _⟩
  · simp [Value.ownBlock] at hj
  · simp [Value.ownBlock] at hj
    subst hj
    exact ⟨hb', (Array.getElem?_eq_some_iff.1 hg).1⟩
theorem Qw.cells (h : Qw w base e k v n xs) {g off cap : Nat} {spot : Option Nat} (hv : v = .slice (some ⟨g, off, none⟩) n cap) : ∀ j u, xs[j]? = some u → w.cell? ⟨g, off + j, none⟩ = some u := by
  intro j u hu
  rcases h.2 with ⟨rfl, _⟩ | ⟨g', off', cap', cur, rfl, _, hg, _, _, _, ht⟩
  · cases hv
  · injection hv with e1 _ e2
    injection e1 with e1
    injection e1 with e1 e3
    subst e1 e3 e2
    rw [cell_of_row w g' (off' + j) cur e (0, 0) hg]
    rw [← ht, List.getElem?_take] at hu
    split at hu
    · rw [List.getElem?_drop] at hu; simpa using hu
    · cases hu
theorem Sl.of_q (h : Qw w base e k v n xs) : Sl w k v n xs := by
  rcases h.2 with ⟨rfl, rfl⟩ | ⟨g, off, cap, cur, rfl, _, hg, hn, hm, hs, ht⟩
  · exact ⟨none, 0, rfl, Nat.le_refl _, by unfold maxLen; omega, h.1, fun hp => by have := h.1; omega⟩
  · exact ⟨_, cap, rfl, hn, hm, h.1, fun _ => ⟨g, off, rfl, h.cells (spot := none) rfl⟩⟩
/-- What a slice yields to an append. -/
theorem Sl.src {P : Program} {t : TypeId} (ht : P.underlying t = some (.slice e)) (h : Sl w k v n xs) (hk : 0 < k) (h1 : ∀ u ∈ xs, u.oneCell' = true) : Src P k t v n xs w := by
  obtain ⟨A, c, rfl, _, _, hl, hc⟩ := h
  rcases Nat.eq_zero_or_pos n with rfl | hn
  · obtain rfl : xs = [] := List.eq_nil_of_length_eq_zero (by simpa using hl)
    cases A with
    | none => exact Src.ofNil w ht c
    | some a => exact Src.ofSlice w ht a 0 c [] (by simp) (fun j u h => by simp at h) h1
  · obtain ⟨b, off, rfl, hcell⟩ := hc (by rw [hl]; exact Nat.mul_pos hn hk)
    exact Src.ofSlice w ht _ n c xs hl (fun j u hj => by rw [Addr.add_lit]; exact hcell j u hj) h1
/-- The head cut off. -/
theorem Qw.tail (h : Qw w base e 1 v (n + 1) xs) : ∃ A c, v = .slice A (n + 1) c ∧ n + 1 ≤ c ∧ c ≤ maxLen ∧ Qw w base e 1 (.slice (if c = 1 then A else A.map (·.add 1)) n (c - 1)) n (xs.drop 1) := by
  rcases h.2 with ⟨rfl, h0⟩ | ⟨g, off, cap, cur, rfl, hb, hg, hn, hm, hs, ht⟩
  · cases h0
  · refine ⟨_, cap, rfl, hn, hm, by rw [List.length_drop, h.1]; omega, .inr ?_⟩
    by_cases e1 : cap = 1
    · subst e1
      obtain rfl : n = 0 := by omega
      refine ⟨g, off, 0, cur, by simp, hb, hg, Nat.le_refl _, by omega, by omega, ?_⟩
      have : xs.length = 1 := by simpa using h.1
      simp [List.drop_eq_nil_of_le (Nat.le_of_eq this)]
    · refine ⟨g, off + 1, cap - 1, cur, by simp [e1, Addr.add_lit], hb, hg, by omega, by omega, by omega, ?_⟩
      rw [← ht, List.drop_take, List.drop_drop]; simp
end

section
variable {P : Program} (w : World)
/-- Any slice appended to a slice of one's own. -/
theorem run_append_q (base : Nat) (t ty e : TypeId) (i : TypeInfo) (z : Value) (size bytes : Nat) (ht : P.underlying t = some (.slice e)) (hi : P.info? e = some i) (hz : i.zero = some z)
    (hsize : i.size = size) (hby : i.bytes = bytes) (hzs : z.cells.size = size) (hsz : 0 < size)
    (v : Value) (n : Nat) (xs : List Value) (hown : Qw w base e size v n xs)
    (x : Value) (m : Nat) (news : List Value) (hx : Sl w size x m news) (h1 : ∀ u ∈ news, u.oneCell' = true)
    (h63 : n + m ≤ maxLen) (hbytes : (n + m) * bytes ≤ 140737488355328) (hbase : base ≤ w.heap.size) :
    ∃ v' w', (Builtin.append_ #[t, t] ty #[v, x]).run P w = .ok v' w' ∧ Qw w' base e size v' (n + m) (xs ++ news) ∧ w.grownBy w' v.ownBlock ∧ (v'.ownBlock = v.ownBlock ∨ v'.ownBlock = some w.heap.size) := by
  subst hsize
  subst hby
  have hsrc := hx.src (P := P) ht hsz h1
  have hnl : news.length = m * i.size := hsrc.newsLen
  have hlen : (xs ++ news).length = (n + m) * i.size := by rw [List.length_append, hown.1, hnl, Nat.add_mul]
  have grown : ∀ (v : Value) (A : Option Addr) (cap : Nat), v = .slice A n cap → cap < n + m → (Builtin.firstCells i.size n (.slice A n cap)).run P w.drew = .ok xs.toArray w.drew →
      ∃ v' w', (Builtin.append_ #[t, t] ty #[v, x]).run P w = .ok v' w' ∧ Qw w' base e i.size v' (n + m) (xs ++ news) ∧ w.grownBy w' v.ownBlock ∧ (v'.ownBlock = v.ownBlock ∨ v'.ownBlock = some w.heap.size) := by
    intro v A cap hv hc hold
    subst hv
    have hge := grownCap_ge w (n + m) cap e
    have hcm : grownCap w (n + m) cap e ≤ maxLen := grownCap_le_maxLen w (n + m) cap e h63
    have hr := run_append_grow_src (P := P) w t t ty e i z ht hi hz A n cap xs hold x m news hsrc hc (by simp only [maxLen] at h63; omega) (growslice_fits (by omega) hbytes)
    refine ⟨_, _, hr, ⟨hlen, .inr ⟨w.heap.size, 0, _, _, rfl, hbase, heap_alloc_new w.drew _, hge, hcm, ?_, ?_⟩⟩, ⟨rfl, rfl, rfl, by simp, fun j hj _ => heap_alloc_old w.drew _ hj⟩, .inr rfl⟩
    · simp only [Array.size_append, List.size_toArray, size_zeroCells, hzs, hlen, ← Nat.add_mul, Nat.zero_add]
      exact Nat.le_of_eq (by congr 1; omega)
    · simp only [Array.toList_append, List.drop_zero]
      rw [← hlen]
      exact List.take_left
  rcases hown.2 with ⟨rfl, rfl⟩ | ⟨g, off, cap, cur, rfl, hb, hg, hnc, hcm, hcs, htake⟩
  · obtain rfl : xs = [] := List.eq_nil_of_length_eq_zero (by simpa using hown.1)
    by_cases hm : m = 0
    · subst hm
      obtain rfl : news = [] := List.eq_nil_of_length_eq_zero (by simpa using hnl)
      exact ⟨.slice none 0 0, w, run_append_nothing w t t ty e i ht hi none 0 0 (Nat.le_refl _) x hsrc, Qw.nil w base e i.size, ⟨rfl, rfl, rfl, Nat.le_refl _, fun _ _ _ => rfl⟩, .inl rfl⟩
    · exact grown _ none 0 rfl (by omega) (run_firstCells_none w.drew i.size 0 0 0)
  · by_cases hroom : n + m ≤ cap
    · have hfit : off + n * i.size + news.length ≤ cur.size := by
        have : (n + m) * i.size ≤ cap * i.size := Nat.mul_le_mul_right _ hroom
        rw [Nat.add_mul] at this; omega
      have hst := run_storeCells_at P g (off + n * i.size) e news 0 cur w hg (by simpa using hfit) hsrc.one
      simp only [Nat.add_zero] at hst
      have hr : (Builtin.append_ #[t, t] ty #[.slice (some ⟨g, off, none⟩) n cap, x]).run P w = .ok (.slice (some ⟨g, off, none⟩) (n + m) cap) (w.setRow g (cur.toList.take (off + n * i.size) ++ news ++ cur.toList.drop (off + n * i.size + news.length)).toArray) := by
        rcases hsrc.kind with ⟨e', hk⟩ | hk <;> simp [Builtin.append_, run_underlying ht, run_underlying hk, sizeOf, typeInfo, hi, hsrc.len, hroom, hsrc.cells, Addr.add_lit, hst]
      refine ⟨_, _, hr, ⟨hlen, .inr ⟨g, off, cap, _, rfl, hb, setRow_heap w g cur _ e _ hg, hroom, hcm, ?_, ?_⟩⟩, ⟨rfl, rfl, rfl, by simp, fun k _ hk => setRow_other w g k _ (fun e => hk (by simp [Value.ownBlock, e]))⟩, .inl rfl⟩
      · simp only [List.size_toArray, List.length_append, List.length_take, List.length_drop, Array.length_toList]
        omega
      · have h1 : (cur.toList.take (off + n * i.size)).drop off = xs := by rw [List.drop_take, Nat.add_sub_cancel_left]; exact htake
        have h2 : (cur.toList.take (off + n * i.size)).length = off + n * i.size := by rw [List.length_take, Array.length_toList]; omega
        show List.take _ (List.drop off (_ ++ _ ++ _)) = _
        rw [List.append_assoc, List.drop_append_of_le_length (by omega), h1, ← List.append_assoc, ← hlen]
        exact List.take_left
    · refine grown _ _ cap rfl (by omega) ?_
      exact run_firstCells_some w.drew i.size n _ n cap xs hown.1 (fun j u hj => by rw [Addr.add_lit]; simpa using hown.cells (spot := none) rfl j u hj)

theorem wpList_append_q {ops : Array Oper} {rest : List Oper} {o : Oper} {a : Act} {Q : Exit → Act → World → Prop} (hgd : o.guard = none) (s x : Operand) (t : TypeId)
    (ho : o.op = .call { callee := .builtin .append, args := #[s, x], argTypes := #[t, t] })
    (base : Nat) (e : TypeId) (i : TypeInfo) (z : Value) (size bytes : Nat) (ht : P.underlying t = some (.slice e)) (hi : P.info? e = some i) (hz : i.zero = some z)
    (hsize : i.size = size) (hby : i.bytes = bytes) (hzs : z.cells.size = size) (hsz : 0 < size)
    (v : Value) (n : Nat) (xs : List Value) (hs : a.eval s = v) (hown : Qw w base e size v n xs)
    (xv : Value) (m : Nat) (news : List Value) (hx : a.eval x = xv) (hsl : Sl w size xv m news) (h1 : ∀ u ∈ news, u.oneCell' = true)
    (h63 : n + m ≤ maxLen) (hbytes : (n + m) * bytes ≤ 140737488355328) (hbase : base ≤ w.heap.size)
    (h : ∀ v' w', Qw w' base e size v' (n + m) (xs ++ news) → w.grownBy w' v.ownBlock → (v'.ownBlock = v.ownBlock ∨ v'.ownBlock = some w.heap.size) → wpList P ops Q rest (a.put o.dst v') w') : wpList P ops Q (o :: rest) a w := by
  refine wpList_plain hgd fun K hK => ?_
  obtain ⟨v', w', hr, h2, h3, h4⟩ := run_append_q (P := P) w base t o.type e i z size bytes ht hi hz hsize hby hzs hsz v n xs hown xv m news hsl h1 h63 hbytes hbase
  unfold Oper.wp execOp
  simp only [ho, resolve, invoke, builtin, Sem.run_bind, Sem.run_pure, Result.andThen_ok, List.map_toArray, List.map_cons, List.map_nil, hs, hx, hr]
  exact hK _ _ (h v' w' h2 h3 h4)
/-- The same at a step of a region that draws its order. -/
theorem step_append_q {ops : Array Oper} {o : Oper} {a : Act} {K : Act → World → Prop} {Q : Exit → Act → World → Prop} {E : Prop} (hgd : o.guard = none) (s x : Operand) (t : TypeId)
    (ho : o.op = .call { callee := .builtin .append, args := #[s, x], argTypes := #[t, t] })
    (base : Nat) (e : TypeId) (i : TypeInfo) (z : Value) (size bytes : Nat) (ht : P.underlying t = some (.slice e)) (hi : P.info? e = some i) (hz : i.zero = some z)
    (hsize : i.size = size) (hby : i.bytes = bytes) (hzs : z.cells.size = size) (hsz : 0 < size)
    (v : Value) (n : Nat) (xs : List Value) (hs : a.eval s = v) (hown : Qw w base e size v n xs)
    (xv : Value) (m : Nat) (news : List Value) (hx : a.eval x = xv) (hsl : Sl w size xv m news) (h1 : ∀ u ∈ news, u.oneCell' = true)
    (h63 : n + m ≤ maxLen) (hbytes : (n + m) * bytes ≤ 140737488355328) (hbase : base ≤ w.heap.size)
    (h : ∀ v' w', Qw w' base e size v' (n + m) (xs ++ news) → w.grownBy w' v.ownBlock → (v'.ownBlock = v.ownBlock ∨ v'.ownBlock = some w.heap.size) → K (a.put o.dst v') w') :
    if Region.wanted o (yielded ops a.tmps) = true then Oper.wp P o a w K Q else E := by
  have hw : Region.wanted o (yielded ops a.tmps) = true := by simp [Region.wanted, hgd]
  rw [if_pos hw]
  obtain ⟨v', w', hr, h2, h3, h4⟩ := run_append_q (P := P) w base t o.type e i z size bytes ht hi hz hsize hby hzs hsz v n xs hown xv m news hsl h1 h63 hbytes hbase
  unfold Oper.wp execOp
  simp only [ho, resolve, invoke, builtin, Sem.run_bind, Sem.run_pure, Result.andThen_ok, List.map_toArray, List.map_cons, List.map_nil, hs, hx, hr]
  exact h v' w' h2 h3 h4
end
/-- One element in a block of its own, as the translation lays it ahead of an append. -/
theorem Sl.boxed (w : World) (cs : Array Value) (e : TypeId) (k : Nat) (hk : cs.size = k) : Sl (w.alloc (.cells cs e)) k (.slice (some ⟨w.heap.size, 0, none⟩) 1 1) 1 cs.toList :=
  Sl.of_own (World.ownsRow_lit (base := 0) w cs 1 (Nat.zero_le _) (by unfold maxLen; omega) (by omega))
/-- A part of a slice. -/
theorem Sl.cut {w : World} {k n : Nat} {A : Option Addr} {c : Nat} {xs : List Value} (h : Sl w 1 (.slice A n c) n xs) (hk : k ≤ n) : Sl w 1 (.slice A k c) k (xs.take k) := by
  obtain ⟨A', c', e, h1, h2, h3, h4⟩ := h
  injection e with e1 _ e2
  subst e1 e2
  refine ⟨A, c, rfl, by omega, h2, by rw [List.length_take]; omega, fun hp => ?_⟩
  obtain ⟨b, off, rfl, hc⟩ := h4 (by rw [List.length_take] at hp; omega)
  exact ⟨b, off, rfl, fun j u hu => hc j u (by rw [List.getElem?_take] at hu; split at hu; exact hu; cases hu)⟩
theorem Sl.from {w : World} {k n : Nat} {A : Option Addr} {c : Nat} {xs : List Value} (h : Sl w 1 (.slice A n c) n xs) (hk : k ≤ n) : Sl w 1 (.slice (if c = k then A else A.map (·.add (k * 1))) (n - k) (c - k)) (n - k) (xs.drop k) := by
  obtain ⟨A', c', e, h1, h2, h3, h4⟩ := h
  injection e with e1 _ e2
  subst e1 e2
  refine ⟨_, c - k, rfl, by omega, by omega, by rw [List.length_drop]; omega, fun hp => ?_⟩
  rw [List.length_drop] at hp
  obtain ⟨b, off, rfl, hc⟩ := h4 (by omega)
  refine ⟨b, off + k, by rw [if_neg (by omega)]; simp [Addr.add_lit], fun j u hu => ?_⟩
  rw [List.getElem?_drop] at hu
  rw [Nat.add_assoc]
  exact hc _ u hu
theorem Qw.empty (w : World) (e : TypeId) : Qw (w.alloc (.cells #[] e)) w.heap.size e 1 (.slice (some ⟨w.heap.size, 0, none⟩) 0 0) 0 [] := by
  have := Qw.of_own (World.ownsRow_lit (base := w.heap.size) (e := e) (size := 1) w #[] 0 (Nat.le_refl _) (by unfold maxLen; omega) rfl)
  simpa using this
/-- A call hands back a slice of its own with these cells; nothing that was there has turned. -/
def RetQ (w : World) (t : TypeId) (k n : Nat) (cs : List Value) (e : Ending) (w' : World) : Prop :=
  ∃ u, e = .returned u ∧ Qw w' w.heap.size t k u n cs ∧ Below w.heap.size w w'
theorem Qw.emptyAt {W : World} {g base : Nat} {e : TypeId} (h : W.heap[g]? = some (.cells #[] e (0, 0))) (hb : base ≤ g) : Qw W base e 1 (.slice (some ⟨g, 0, none⟩) 0 0) 0 [] :=
  ⟨rfl, .inr ⟨g, 0, 0, #[], rfl, hb, h, Nat.le_refl _, by unfold maxLen; omega, by simp, by simp⟩⟩
theorem Sl.boxAt {W : World} {g : Nat} {e : TypeId} {x : Value} (h : W.heap[g]? = some (.cells #[x] e (0, 0))) : Sl W 1 (.slice (some ⟨g, 0, none⟩) 1 1) 1 [x] :=
  Sl.of_q (base := 0) (e := e) ⟨rfl, .inr ⟨g, 0, 1, #[x], rfl, Nat.zero_le _, h, Nat.le_refl _, by unfold maxLen; omega, by simp, by simp⟩⟩
theorem hp0 (w : World) (o : Obj) : (w.alloc o).heap[w.heap.size]? = some o := heap_alloc_new w o
theorem hp1 (w : World) (o p : Obj) : ((w.alloc o).alloc p).heap[w.heap.size]? = some o := (Below.heap_alloc _ _ _ (by simp)).trans (heap_alloc_new w o)
theorem hp2 (w : World) (o p : Obj) : ((w.alloc o).alloc p).heap[w.heap.size + 1]? = some p := by
  have := heap_alloc_new (w.alloc o) p
  simpa using this
theorem ints_one (zs : List Int) : ∀ u ∈ zs.map (Value.int .i64), u.oneCell' = true := by
  intro u hu; obtain ⟨z, _, rfl⟩ := List.mem_map.1 hu; rfl
end Go.Proofs.YtnadeddkogapoaaGreatDoor

/- Contracts of the functions that copy, compare, mark and ask slices of ints. Conditions: lengths up to 1048576 where a counter runs. -/
namespace Go.Proofs.YtnadeddkogapoaaGreatDoor
open Go.ChangeShapes Go.WideShapes Go.ChangeAt Go.RowKit
set_option linter.unusedVariables false
set_option linter.unusedSimpArgs false
set_option maxRecDepth 100000

/-- A call hands back a row of its own with these cells; nothing that was there has turned. -/
def RetOwn (w : World) (t : TypeId) (k n : Nat) (cs : List Value) (e : Ending) (w' : World) : Prop :=
  ∃ u, e = .returned u ∧ w'.ownsRow w.heap.size t k u n cs ∧ Below w.heap.size w w'
abbrev ints (zs : List Int) : List Value := zs.map (Value.int .i64)

theorem info_int : (Tryz.prog.info? 3).map (fun i => (i.zero, i.size, i.bytes)) = some (some (.int .i64 0), 1, 8) := by kernel_rfl

/-- The marks from a number on. -/
def marks (k : Int) (n : Nat) : List Int := (List.range n).map fun (i : Nat) => k + (i : Int)
theorem marks_length (k : Int) (n : Nat) : (marks k n).length = n := by simp [marks]
theorem marks_at (k : Int) (n i : Nat) (h : i < n) : (marks k n)[i]? = some (k + i) := by simp [marks, h]
/-- A call hands back a value and fills a row of its caller's with marks. -/
def RetMark (w : World) (r : Value) (base : Nat) (v : Value) (k : Int) (n : Nat) (e : Ending) (w' : World) : Prop :=
  e = .returned r ∧ w'.ownsRow base 3 1 v n (ints (marks k n)) ∧ w.grownBy w' v.ownBlock
end Go.Proofs.YtnadeddkogapoaaGreatDoor

/- A region that draws its order and whose calls make memory: walked once, in the order of the text, in the class of the worlds that hold all that stood before. Conditions: none. -/
namespace Go.Proofs.YtnadeddkogapoaaGreatDoor
open Go.ChangeShapes Go.WideShapes Go.ChangeAt Go.RowKit Go.Deep
set_option linter.unusedVariables false
set_option linter.unusedSimpArgs false
set_option maxRecDepth 100000

theorem grow_drew (w : World) : Below w.heap.size w w.drew := ⟨rfl, rfl, rfl, Nat.le_refl _, fun _ _ => rfl⟩
/-- A later world: what stood below the heap's end stands there still. -/
structure Later (W : World) where
  w : World
  h : Below W.heap.size W w
instance (W : World) : Nonempty (Later W) := ⟨⟨W, Below.refl _ _⟩⟩
theorem Later.cell {W : World} (n : Later W) (b o : Nat) (h : b < W.heap.size) : n.w.cell? ⟨b, o, none⟩ = W.cell? ⟨b, o, none⟩ := n.h.cell (p := ⟨b, o, none⟩) h
theorem later_of {P : Program} {f : FuncId} {args : Array Value} {W : World} {n : Later W} {v : Value} (h : Calls P f args n.w fun e w' => e = .returned v ∧ Below n.w.heap.size n.w w') :
    Calls P f args n.w fun e w'' => e = .returned v ∧ ∃ m : Later W, w'' = m.w := h.mono fun _ w' ⟨he, hb⟩ => ⟨he, ⟨w', grow_trans n.h hb⟩, rfl⟩
theorem later_same {P : Program} {f : FuncId} {args : Array Value} {W : World} {n : Later W} {v : Value} (h : Calls P f args n.w fun e w' => e = .returned v ∧ n.w = w') :
    Calls P f args n.w fun e w'' => e = .returned v ∧ ∃ m : Later W, w'' = m.w := h.mono fun _ _ ⟨he, hb⟩ => ⟨he, n, hb.symm⟩
theorem wp_region_later {P : Program} {id : Nat} {Q : Exit → Act → World → Prop} {a : Act} {w : World} {l : List Oper} (hm : P.follows .mixedOrders = true) (hB : Region.lexB .any l.toArray = true)
    (h : wpQuiet P l.toArray (fun w' => ∃ n : Later w, w' = n.w) (fun a' => ∀ w', (∃ n : Later w, w' = n.w) → Q .normal a' w') l a) : (Code.region id l.toArray true).wp P Q a w :=
  wp_region_quiet (C := fun w' => ∃ n : Later w, w' = n.w) hm hB ⟨⟨_, grow_drew w⟩, rfl⟩ (by simpa using h)
end Go.Proofs.YtnadeddkogapoaaGreatDoor

/- Contracts of the small functions on numbers. Conditions: as each states. -/
namespace Go.Proofs.YtnadeddkogapoaaGreatDoor
open Go.ChangeShapes Go.WideShapes Go.ChangeAt Go.RowKit
set_option linter.unusedVariables false
set_option linter.unusedSimpArgs false
set_option maxRecDepth 100000

theorem l1In_any (x a b : Int) (w : World) :
    Calls Tryz.prog 62 #[.int .i64 x, .int .i64 a, .int .i64 b] w fun e w' => e = .returned (.bool (inB x a b)) ∧ w = w' := by
  unfold inB
  by_cases h : a ≤ x
  · go_enter Tryz.func62, Tryz.ntmps62
    go_wp2
    go_ret
    simp [h]
  · go_enter Tryz.func62, Tryz.ntmps62
    go_wp2
    go_ret
    simp; omega
theorem in_any (x a b : Int) (w : World) :
    Calls Tryz.prog 31 #[.int .i64 x, .int .i64 a, .int .i64 b] w fun e w' => e = .returned (.bool (inB x a b)) ∧ w = w' := by
  unfold inB
  by_cases h : a ≤ x
  · go_enter Tryz.func31, Tryz.ntmps31
    go_wp2
    go_ret
    simp [h]
  · go_enter Tryz.func31, Tryz.ntmps31
    go_wp2
    go_ret
    simp; omega
theorem l20Moist_any (x : Int) (w : World) :
    Calls Tryz.prog 51 #[.int .i64 x] w fun e w' => e = .returned (.bool (inB x 0 400)) ∧ w = w' := by
  go_enter Tryz.func51, Tryz.ntmps51
  go_wp2_with (go_at_call 62; refine (l1In_any _ _ _ _).mono ?_; rintro e w' ⟨rfl, rfl⟩)
  go_ret
  exact ⟨rfl, rfl⟩
theorem isMoisture_any (x : Int) (w : World) :
    Calls Tryz.prog 48 #[.int .i64 x] w fun e w' => e = .returned (.bool (inB x 0 400)) ∧ w = w' := by
  go_enter Tryz.func48, Tryz.ntmps48
  go_wp2_with (go_at_call 31; refine (in_any _ _ _ _).mono ?_; rintro e w' ⟨rfl, rfl⟩)
  go_ret
  exact ⟨rfl, rfl⟩
theorem isSlope_any (x : Int) (w : World) :
    Calls Tryz.prog 53 #[.int .i64 x] w fun e w' => e = .returned (.bool (inB x (-45) 45)) ∧ w = w' := by
  go_enter Tryz.func53, Tryz.ntmps53
  go_wp2_with (go_at_call 31; refine (in_any _ _ _ _).mono ?_; rintro e w' ⟨rfl, rfl⟩)
  go_ret
  exact ⟨rfl, rfl⟩
end Go.Proofs.YtnadeddkogapoaaGreatDoor

/- Contracts of slices.IndexFunc, slices.ContainsFunc and the program's all at ints, at whatever function value that answers by a plain predicate and leaves what was there. Conditions: as each states. -/
namespace Go.Proofs.YtnadeddkogapoaaGreatDoor
open Go.ChangeShapes Go.WideShapes Go.ChangeAt Go.RowKit
set_option linter.unusedVariables false
set_option linter.unusedSimpArgs false
set_option maxRecDepth 100000

/-- What is asked of a predicate's function value: at every later world and every element it answers by p and leaves what was there. -/
def Pays {α : Type} (enc : α → Value) (g : Nat) (lb : Array Value) (p : α → Bool) (w : World) : Prop :=
  ∀ (W : World) (x : α), Below w.heap.size w W → Calls Tryz.prog g (#[enc x] ++ lb) W fun e w' => e = .returned (.bool (p x)) ∧ Below W.heap.size W w'
theorem Pays.later {α : Type} {enc : α → Value} {g : Nat} {lb : Array Value} {p : α → Bool} {w w1 : World} (h : Pays enc g lb p w) (hb : Below w.heap.size w w1) : Pays enc g lb p w1 :=
  fun W x hW => h W x (grow_trans hb hW)
/-- The first index at which a predicate holds, or -1. -/
def idxOf {α : Type} (p : α → Bool) (xs : List α) : Int := match xs.findIdx? p with | some i => i | none => -1
theorem idxOf_any {α : Type} (p : α → Bool) (xs : List α) : decide (0 ≤ idxOf p xs) = xs.any p := by
  unfold idxOf
  cases h : xs.findIdx? p with
  | none =>
    rw [List.findIdx?_eq_none_iff] at h
    have : xs.any p = false := by rw [List.any_eq_false]; intro x hx; simp [h x hx]
    rw [this]; decide
  | some i =>
    obtain ⟨hi, hp, _⟩ := List.findIdx?_eq_some_iff_getElem.1 h
    have : xs.any p = true := by rw [List.any_eq_true]; exact ⟨_, List.getElem_mem hi, hp⟩
    rw [this]; simp
theorem idxOf_hit {α : Type} {p : α → Bool} {xs : List α} {k : Nat} {x : α} (hx : xs[k]? = some x) (hp : p x = true) (hn : ∀ (j : Nat) (y : α), j < k → xs[j]? = some y → p y = false) : idxOf p xs = k := by
  have : xs.findIdx? p = some k := by
    obtain ⟨hk, rfl⟩ := List.getElem?_eq_some_iff.1 hx
    exact List.findIdx?_eq_some_iff_getElem.2 ⟨hk, hp, fun j hj => by simp [hn j _ hj (List.getElem?_eq_getElem (by omega))]⟩
  simp [idxOf, this]
theorem idxOf_miss {α : Type} {p : α → Bool} {xs : List α} (hn : ∀ (j : Nat) (y : α), xs[j]? = some y → p y = false) : idxOf p xs = -1 := by
  have : xs.findIdx? p = none := by
    rw [List.findIdx?_eq_none_iff]
    intro x hx
    obtain ⟨j, hj, rfl⟩ := List.mem_iff_getElem.1 hx
    exact hn j _ (List.getElem?_eq_getElem hj)
  simp [idxOf, this]

end Go.Proofs.YtnadeddkogapoaaGreatDoor

/- Contracts of the functions on a terrain's value: sizes, copies, comparison, marks, validity. Conditions: as each states. -/
namespace Go.Proofs.YtnadeddkogapoaaGreatDoor
open Go.ChangeShapes Go.WideShapes Go.ChangeAt Go.RowKit
set_option linter.unusedVariables false
set_option linter.unusedSimpArgs false
set_option maxRecDepth 100000

/-- A terrain's value. -/
abbrev terrV (x y : Int) (u : Value) : Value := .agg #[.int .i64 x, .int .i64 y, u]
/-- A terrain is valid. -/
def terrB (x y : Int) (zs : List Int) : Bool := inB x 1 5 && inB y 1 5 && decide ((zs.length : Int) = x * y) && zs.all (fun z => inB z 0 20)
/-- A call hands back a terrain whose row is its own. -/
def RetTerr (w : World) (x y : Int) (zs : List Int) (e : Ending) (w' : World) : Prop :=
  ∃ u, e = .returned (terrV x y u) ∧ w'.ownsRow w.heap.size 3 1 u zs.length (ints zs) ∧ Below w.heap.size w w'

end Go.Proofs.YtnadeddkogapoaaGreatDoor

/- Contracts of the functions on breezes. Conditions: directions from 0 to 7 where a turn or a push is asked. -/
namespace Go.Proofs.YtnadeddkogapoaaGreatDoor
open Go.ChangeShapes Go.WideShapes Go.ChangeAt Go.RowKit
set_option linter.unusedVariables false
set_option linter.unusedSimpArgs false
set_option maxRecDepth 100000

end Go.Proofs.YtnadeddkogapoaaGreatDoor

/- Cells of a terrain: columns, rows, steps apart; the functions that tell of them. Conditions: none; each function's own stand at it. -/
namespace Go.Proofs.YtnadeddkogapoaaGreatDoor
open Go.ChangeShapes Go.WideShapes Go.ChangeAt Go.RowKit Go.Deep
set_option linter.unusedVariables false
set_option linter.unusedSimpArgs false
set_option maxRecDepth 100000

/-- What a valid terrain's sizes are. -/
theorem terr_dims {x y : Int} {zs : List Int} (h : terrB x y zs = true) : (1 ≤ x ∧ x ≤ 5) ∧ (1 ≤ y ∧ y ≤ 5) ∧ (zs.length : Int) = x * y ∧ (zs.length : Int) ≤ 25 := by
  simp only [terrB, Bool.and_eq_true, decide_eq_true_eq] at h
  obtain ⟨⟨⟨h1, h2⟩, h3⟩, _⟩ := h
  have h1 := inB_iff.1 h1
  have h2 := inB_iff.1 h2
  have := mul_bound (a := x) (b := y) (x := 5) (y := 5) (by omega) h1.2 (by omega) h2.2
  exact ⟨h1, h2, h3, by omega⟩
/-- The steps between two cells, at a width. -/
def apartN (x a b : Int) : Int := max (max (a % x - b % x) (b % x - a % x)) (max (a / x - b / x) (b / x - a / x))
theorem cell_bds {x c : Int} (h1 : 1 ≤ x) (h2 : x ≤ 5) (h3 : 0 ≤ c) (h4 : c ≤ 25) : (0 ≤ c % x ∧ c % x ≤ 4) ∧ 0 ≤ c / x ∧ c / x ≤ 25 :=
  ⟨⟨Int.emod_nonneg _ (by omega), by have := Int.emod_lt_of_pos c (show 0 < x by omega); omega⟩, Int.ediv_nonneg h3 (by omega), by have := Int.ediv_le_self x h3; omega⟩
theorem apartN_bd {x a b : Int} (h1 : 1 ≤ x) (h2 : x ≤ 5) (h3 : 0 ≤ a) (h4 : a ≤ 25) (h5 : 0 ≤ b) (h6 : b ≤ 25) : 0 ≤ apartN x a b ∧ apartN x a b ≤ 25 := by
  have := cell_bds h1 h2 h3 h4
  have := cell_bds h1 h2 h5 h6
  unfold apartN
  generalize a % x = p at *
  generalize b % x = q at *
  generalize a / x = r at *
  generalize b / x = s at *
  omega
end Go.Proofs.YtnadeddkogapoaaGreatDoor

/- The cells for which a condition holds, gathered by the program's loop over a closure; the reference's loops that append. Conditions: as each states. -/
namespace Go.Proofs.YtnadeddkogapoaaGreatDoor
open Go.ChangeShapes Go.WideShapes Go.ChangeAt Go.RowKit Go.Deep
set_option linter.unusedVariables false
set_option linter.unusedSimpArgs false
set_option maxRecDepth 100000

/-- The numbers below k for which a condition holds. -/
def selN (p : Nat → Bool) (k : Nat) : List Int := ((List.range k).filter p).map fun (i : Nat) => (i : Int)
theorem selN_zero (p : Nat → Bool) : selN p 0 = [] := rfl
theorem selN_yes {p : Nat → Bool} {k : Nat} (h : p k = true) : selN p (k + 1) = selN p k ++ [(k : Int)] := by simp [selN, List.range_succ, List.filter_append, h]
theorem selN_no {p : Nat → Bool} {k : Nat} (h : p k = false) : selN p (k + 1) = selN p k := by simp [selN, List.range_succ, List.filter_append, h]
theorem selN_le (p : Nat → Bool) (k : Nat) : (selN p k).length ≤ k := by
  unfold selN; rw [List.length_map]; exact Nat.le_trans (List.length_filter_le _ _) (by simp)
theorem selN_congr {p q : Nat → Bool} {k : Nat} (h : ∀ j, j < k → p j = q j) : selN p k = selN q k := by
  unfold selN; rw [List.filter_congr (fun j hj => h j (List.mem_range.1 hj))]
theorem grow_put {B n : Nat} {e : TypeId} {W wr w1 : World} {u : Value} {xs : List Value} {o : Obj} (hown : wr.ownsRow B e 1 u n xs) (hb : Below B W wr) (hB : B ≤ wr.heap.size) (hgrow : (wr.alloc o).grownBy w1 u.ownBlock) : Below B W w1 :=
  (hb.alloc hB o).grown hgrow (by simp; omega) (fun j hj => (hown.lt j hj).1)
theorem own_kept {w w' : World} {base k n : Nat} {e : TypeId} {v : Value} {cs : List Value} {row : Option Nat} (h : w.ownsRow base e k v n cs) (hg : w.grownBy w' row) (hne : ∀ j, v.ownBlock = some j → some j ≠ row) : w'.ownsRow base e k v n cs := by
  refine ⟨h.1, ?_⟩
  rcases h.2 with hn | ⟨g, cap, cur, rfl, hb', hg', rest⟩
  · exact .inl hn
  · refine .inr ⟨g, cap, cur, rfl, hb', ?_, rest⟩
    rw [hg.block g (Array.getElem?_eq_some_iff.1 hg').1 (hne g rfl)]
    exact hg'
theorem own_put {B : Nat} {e : TypeId} {w1 : World} {v : Value} {p : Nat → Bool} {k : Nat} (hp : p k = true) (h : w1.ownsRow B e 1 v ((selN p k).length + 1) (ints (selN p k) ++ [.int .i64 (k : Int)])) : w1.ownsRow B e 1 v (selN p (k + 1)).length (ints (selN p (k + 1))) := by
  rw [selN_yes hp]; simpa using h
/-- A call hands back a list in memory of its own, and a Bool. -/
def RetSel (w : World) (xs : List Int) (ok : Bool) (e : Ending) (w' : World) : Prop :=
  ∃ u, e = .returned (.tuple #[u, .bool ok]) ∧ w'.ownsRow w.heap.size 3 1 u xs.length (ints xs) ∧ Below w.heap.size w w'
def burnP (zs : List Int) (k : Nat) : Bool := decide (0 < zs.getD k 0)
/-- What a function that gathers hands back. -/
def selR (b : Bool) (xs : List Int) : List Int := if b then xs else []
end Go.Proofs.YtnadeddkogapoaaGreatDoor

/- Texts of bytes. Conditions: as each states. -/
namespace Go.Proofs.YtnadeddkogapoaaGreatDoor
open Go.ChangeShapes Go.WideShapes Go.ChangeAt Go.RowKit Go.Deep
set_option linter.unusedVariables false
set_option linter.unusedSimpArgs false
set_option maxRecDepth 100000

/-- A text of bytes. -/
def bs (l : List UInt8) : ByteArray := ⟨l.toArray⟩
theorem bs_size (l : List UInt8) : (bs l).size = l.length := by show l.toArray.size = _; simp
theorem bs_add (l : List UInt8) (c : UInt8) : bs l ++ { data := #[c] } = bs (l ++ [c]) := by
  show (ByteArray.mk l.toArray ++ ByteArray.mk [c].toArray) = _
  rw [ByteArray.mk_append_mk]; rfl
theorem bs_app (l m : List UInt8) : bs l ++ bs m = bs (l ++ m) := ByteArray.mk_append_mk l m
theorem cell_grow {w w' : World} {B o : Nat} {v : Value} (h : w.cell? ⟨B, o, none⟩ = some v) (hb : Below w.heap.size w w') : w'.cell? ⟨B, o, none⟩ = some v := by
  rw [hb.cell (World.block_lt_of_cell? w _ h)]; exact h
/-- Bytes as cells. -/
abbrev byts (l : List UInt8) : List Value := l.map fun c => Value.int .u8 (c.toNat : Int)
theorem byts_one (l : List UInt8) : ∀ u ∈ byts l, u.oneCell' = true := by
  intro u hu; obtain ⟨z, _, rfl⟩ := List.mem_map.1 hu; rfl
theorem strOf_byts (l : List UInt8) : strOfNums (l.map fun c => (c.toNat : Int)) = bs l := by
  unfold strOfNums bs
  congr 2
  rw [List.map_map]
  conv => rhs; rw [← List.map_id l]
  apply List.map_congr_left
  intro c _
  simp
/-- A slice of bytes as a text. -/
theorem conv_bytes {P : Program} {w : World} {base : Nat} {e t d : TypeId} {v : Value} {l : List UInt8} (hs : P.underlying t = some (.slice e)) (he : P.underlying e = some (.int .u8)) (hd : P.underlying d = some .string)
    (h : Qw w base e 1 v l.length (byts l)) : (convert t d v).run P w = .ok (.string (bs l)) w := by
  rcases h.2 with ⟨rfl, h0⟩ | ⟨g, off, cap, cur, rfl, _⟩
  · obtain rfl : l = [] := List.eq_nil_of_length_eq_zero h0
    exact run_convert_bytes_nil w t e hs he 0 0 d hd
  · have := run_convert_bytes_arg (P := P) w t e hs he g off l.length cap (l.map fun c => (c.toNat : Int)) (by simp) (fun i hi => by
      refine h.cells (spot := none) rfl i _ ?_
      simp [List.getD_eq_getElem?_getD, hi]) d hd
    rw [strOf_byts] at this
    exact this
end Go.Proofs.YtnadeddkogapoaaGreatDoor

/- Contracts of the functions that compare, mark and ask slices of strings. Conditions: lengths up to 1048576 where a counter runs. -/
namespace Go.Proofs.YtnadeddkogapoaaGreatDoor
open Go.ChangeShapes Go.WideShapes Go.ChangeAt Go.RowKit Go.Deep
set_option linter.unusedVariables false
set_option linter.unusedSimpArgs false
set_option maxRecDepth 100000

abbrev strs (ss : List ByteArray) : List Value := ss.map Value.string
/-- The digits of a mark. -/
def mdg (n : Nat) (acc : ByteArray) : ByteArray := if n = 0 then acc else mdg (n / 10) (bs [UInt8.ofNat (48 + n % 10)] ++ acc)
termination_by n
decreasing_by omega
/-- A mark's text. -/
def mtext (n : Nat) : ByteArray := if n = 0 then bs [109, 48] else bs [109] ++ mdg n (bs [])
theorem mdg_zero (acc : ByteArray) : mdg 0 acc = acc := by rw [mdg]; rfl
theorem mdg_pos {n : Nat} (h : 0 < n) (acc : ByteArray) : mdg n acc = mdg (n / 10) (bs [UInt8.ofNat (48 + n % 10)] ++ acc) := by rw [mdg, if_neg (by omega)]
def mtexts (k : Nat) (n : Nat) : List ByteArray := (List.range n).map fun i => mtext (k + i)
theorem mtexts_length (k n : Nat) : (mtexts k n).length = n := by simp [mtexts]
theorem mtexts_at (k n i : Nat) (h : i < n) : (mtexts k n)[i]? = some (mtext (k + i)) := by simp [mtexts, h]
theorem conv_one {P : Program} {t e d : TypeId} (hs : P.underlying t = some (.slice e)) (he : P.underlying e = some (.int .u8)) (hd : P.underlying d = some .string) (W : World) (k : Nat) :
    (convert t d (.slice (some ⟨W.heap.size, 0, none⟩) 1 1)).run P (W.alloc (.cells #[.int .u8 (48 + (k : Int) % 10)] e)) = .ok (.string (bs [UInt8.ofNat (48 + k % 10)])) (W.alloc (.cells #[.int .u8 (48 + (k : Int) % 10)] e)) := by
  refine conv_bytes (base := 0) (l := [UInt8.ofNat (48 + k % 10)]) hs he hd ?_
  have e1 : byts [UInt8.ofNat (48 + k % 10)] = [.int .u8 (48 + (k : Int) % 10)] := by
    unfold byts
    simp only [List.map_cons, List.map_nil, UInt8.toNat_ofNat']
    congr 2
    omega
  rw [e1]
  exact ⟨rfl, .inr ⟨_, 0, 1, #[.int .u8 (48 + (k : Int) % 10)], rfl, Nat.zero_le _, hp0 _ _, Nat.le_refl _, by unfold maxLen; omega, by simp, by simp⟩⟩
theorem cell_keeps {w w' : World} (hb : Below w.heap.size w w') {b o : Nat} {v : Value} (h : w.cell? ⟨b, o, none⟩ = some v) : w'.cell? ⟨b, o, none⟩ = some v := by
  have hlt : b < w.heap.size := by
    rcases Nat.lt_or_ge b w.heap.size with h1 | h1
    · exact h1
    · exfalso
      unfold World.cell? at h
      simp [Array.getElem?_eq_none h1] at h
  rw [hb.cell (p := ⟨b, o, none⟩) hlt]; exact h
end Go.Proofs.YtnadeddkogapoaaGreatDoor

/- The reader of choices: its box and what keeps it; a code as an argument, opened. Conditions: as each states. -/
namespace Go.Proofs.YtnadeddkogapoaaGreatDoor
open Go.ChangeShapes Go.WideShapes Go.ChangeAt Go.RowKit Go.Deep
set_option linter.unusedVariables false
set_option linter.unusedSimpArgs false
set_option maxRecDepth 100000

theorem and255 {E : Int} (h0 : 0 ≤ E) (h1 : E ≤ 18446744073709551615) : 0 ≤ bits .and .u64 E 255 ∧ bits .and .u64 E 255 ≤ 255 := by
  have h := bits_and_u64_nat E.toNat 255 (by omega) (by omega)
  have e : ((E.toNat : Nat) : Int) = E := Int.toNat_of_nonneg h0
  rw [e] at h
  have h2 : E.toNat &&& 255 ≤ 255 := Nat.and_le_right
  have h3 : bits .and .u64 E 255 = ((E.toNat &&& 255 : Nat) : Int) := h
  omega
theorem wrap64_bd (n : Int) : 0 ≤ IntKind.u64.wrap n ∧ IntKind.u64.wrap n ≤ 18446744073709551615 := by
  rw [IntKind.wrap_u64]; omega
/-- Bytes as cells. -/
abbrev octs (zs : List Int) : List Value := zs.map (Value.int .u8)
section
variable {H : Type} {enc : TypeId × Value → H} {W : World} {base b0 : Nat} {v : Value} {d : DataW H} {ps : List MemPlace}
theorem U8_of_wf {n : Int} (h : (Lit.int .u8 n).wf = true) : 0 ≤ n ∧ n ≤ 255 := by
  simpa [Lit.wf, IntKind.min, IntKind.max, IntKind.bits, IntKind.signed] using h
theorem open_bs (hv : Value.okWide Tryz.prog W .any b0 22 v) (h : DataW.Trod enc Tryz.prog W base (fun _ => true) true 22 v d ps) :
    ∃ zs : List Int, Sl W 1 v zs.length (octs zs) ∧ ∀ z ∈ zs, 0 ≤ z ∧ z ≤ 255 := by
  obtain ⟨n, C, hs, hC⟩ := open_slk Tryz.underlying22 (show Tryz.prog.cellsOf 5 = 1 by kernel_rfl) hv h
  obtain ⟨zs, h1, h2, h3⟩ := list_of (enc := fun z => [Value.int .u8 z]) (p := fun z => 0 ≤ z ∧ z ≤ 255) (C := C) n (fun i hi => by
    obtain ⟨_, y, m, ht⟩ := hC i hi
    obtain ⟨z, e, _, hw⟩ := DataW.trod_int Tryz.underlying5 ht
    exact ⟨z, e, U8_of_wf hw⟩)
  subst h1
  rw [h2, flatMap_one] at hs
  exact ⟨zs, hs, h3⟩
end
/-- What is read lies in memory, in a block below the reader's own. -/
def Code (w : World) (C : Nat) (V : Value) (zs : List Int) : Prop := Sl w 1 V zs.length (octs zs) ∧ (∀ z ∈ zs, 0 ≤ z ∧ z ≤ 255) ∧ (zs ≠ [] → ∀ j, V.ownBlock = some j → j < C)
/-- What holds nothing lies in whatever memory. -/
theorem Sl.none_in {w w' : World} {k n : Nat} {v : Value} (h : Sl w k v n []) : Sl w' k v n [] := by
  obtain ⟨A, c, rfl, h1, h2, h3, _⟩ := h
  exact ⟨A, c, rfl, h1, h2, h3, fun hp => absurd hp (by simp)⟩
/-- The reader at C, its place at most m. -/
def Cur (w : World) (C m : Nat) : Prop :=
  ∃ V zs, ∃ k : Nat, ∃ s : Int, k ≤ m ∧ (0 ≤ s ∧ s ≤ 18446744073709551615) ∧ Code w C V zs ∧ w.ownsRow C 62 3 (.slice (some ⟨C, 0, none⟩) 1 1) 1 [V, .int .i64 k, .int .u64 s]
theorem Cur.lt {w : World} {C m : Nat} (h : Cur w C m) : C < w.heap.size := by
  obtain ⟨V, zs, k, s, _, _, _, hO⟩ := h
  exact (hO.lt C rfl).2
theorem Cur.kept {w w' : World} {C m : Nat} {row : Option Nat} (h : Cur w C m) (hg : w.grownBy w' row) (hr : ∀ j, row = some j → C < j) : Cur w' C m := by
  obtain ⟨V, zs, k, s, hk, hs, ⟨c1, c2, c3⟩, hO⟩ := h
  refine ⟨V, zs, k, s, hk, hs, ⟨?_, c2, c3⟩, own_kept hO hg fun j hj e => ?_⟩
  · by_cases hz : zs = []
    · subst hz; exact c1.none_in
    · refine c1.kept hg ?_
      cases hV : V.ownBlock with
      | none => exact .inl rfl
      | some j => exact .inr fun e => by have a := c3 hz j hV; have b := hr j e.symm; omega
  · simp [Value.ownBlock] at hj
    have b := hr j e.symm
    omega
theorem Cur.below {w w' : World} {C m : Nat} (h : Cur w C m) (hb : Below w.heap.size w w') : Cur w' C m := h.kept (grownBy_of_below (r := none) hb) (by intro j hj; cases hj)
theorem Cur.up {w : World} {C m m' : Nat} (h : Cur w C m) (hm : m ≤ m') : Cur w C m' := by
  obtain ⟨V, zs, k, s, hk, r⟩ := h
  exact ⟨V, zs, k, s, by omega, r⟩
/-- A new reader. -/
theorem Cur.new {w : World} {V : Value} {zs : List Int} (h1 : Sl w 1 V zs.length (octs zs)) (h2 : ∀ z ∈ zs, 0 ≤ z ∧ z ≤ 255) : Cur (w.alloc (.cells #[V, .int .i64 0, .int .u64 0] 62)) w.heap.size 0 := by
  refine ⟨V, zs, 0, 0, Nat.le_refl _, by omega, ⟨h1.below (grow_alloc _ _), h2, ?_⟩, ?_⟩
  · intro hz j hj
    obtain ⟨A, c, rfl, _, _, h3, h4⟩ := h1
    have hpos : 0 < (octs zs).length := by
      have := List.length_pos_iff.2 hz
      simpa using this
    obtain ⟨b, off, rfl, hc⟩ := h4 hpos
    have hj2 : b = j := by simpa [Value.ownBlock] using hj
    subst hj2
    exact World.block_lt_of_cell? w _ (hc 0 _ (List.getElem?_eq_getElem hpos))
  · have := World.ownsRow_lit (base := w.heap.size) (e := 62) (size := 3) w #[V, .int .i64 0, .int .u64 0] 1 (Nat.le_refl _) (by unfold maxLen; omega) (by rfl)
    simpa using this
/-- A call hands back a value, moves the reader at C and touches no other block. -/
def RetC (w : World) (C m : Nat) (R : Value → Prop) (e : Ending) (w' : World) : Prop := ∃ v, e = .returned v ∧ R v ∧ Cur w' C m ∧ w.grownBy w' (some C)
/-- A number from 0 up to a bound. -/
def IsN (n : Int) (v : Value) : Prop := ∃ x : Int, v = .int .i64 x ∧ 0 ≤ x ∧ x < n
/-- One of some numbers. -/
def IsI (zs : List Int) (v : Value) : Prop := ∃ x ∈ zs, v = .int .i64 x
/-- One of some texts. -/
def IsS (zs : List ByteArray) (v : Value) : Prop := ∃ x ∈ zs, v = .string x
end Go.Proofs.YtnadeddkogapoaaGreatDoor

/- Heads and tails of slices whose elements have several cells; a slice of one element just made. Conditions: as each states. -/
namespace Go.Proofs.YtnadeddkogapoaaGreatDoor
open Go.ChangeShapes Go.WideShapes Go.ChangeAt Go.RowKit Go.Deep
set_option linter.unusedVariables false
set_option linter.unusedSimpArgs false
set_option maxRecDepth 100000

theorem Sl.cutK {w : World} {K k n : Nat} {A : Option Addr} {c : Nat} {xs : List Value} (h : Sl w K (.slice A n c) n xs) (hk : k ≤ n) : Sl w K (.slice A k c) k (xs.take (k * K)) := by
  obtain ⟨A', c', e, h1, h2, h3, h4⟩ := h
  injection e with e1 _ e2
  subst e1 e2
  have hle : k * K ≤ n * K := Nat.mul_le_mul_right _ hk
  refine ⟨A, c, rfl, by omega, h2, by rw [List.length_take]; omega, fun hp => ?_⟩
  rw [List.length_take] at hp
  obtain ⟨b, off, rfl, hc⟩ := h4 (by omega)
  refine ⟨b, off, rfl, fun j u hu => ?_⟩
  rw [List.getElem?_take] at hu
  split at hu
  · exact hc j u hu
  · cases hu
theorem Sl.fromK {w : World} {K k n : Nat} {A : Option Addr} {c : Nat} {xs : List Value} (h : Sl w K (.slice A n c) n xs) (hk : k ≤ n) : Sl w K (.slice (if c = k then A else A.map (·.add (k * K))) (n - k) (c - k)) (n - k) (xs.drop (k * K)) := by
  obtain ⟨A', c', e, h1, h2, h3, h4⟩ := h
  injection e with e1 _ e2
  subst e1 e2
  refine ⟨_, _, rfl, by omega, by omega, by rw [List.length_drop, h3, ← Nat.sub_mul], fun hp => ?_⟩
  rw [List.length_drop] at hp
  obtain ⟨b, off, rfl, hc⟩ := h4 (by omega)
  by_cases e : c = k
  · exfalso
    have : n = k := by omega
    subst this
    omega
  · refine ⟨b, off + k * K, by simp [e, Addr.add_lit], fun j u hu => ?_⟩
    rw [List.getElem?_drop] at hu
    rw [Nat.add_assoc]
    exact hc _ u hu
theorem lit_one (w : World) (t : TypeId) (vs : List Value) (hv : vs.length ≤ 100) : Sl (w.alloc (.cells vs.toArray t)) vs.length (.slice (some ⟨w.heap.size, 0, none⟩) 1 1) 1 vs :=
  Sl.of_own (base := 0) (by
    have := World.ownsRow_lit (base := 0) (e := t) (size := vs.length) w vs.toArray 1 (Nat.zero_le _) (by unfold maxLen; omega) (by simp)
    simpa using this)
theorem Qw.emptyK {W : World} {g base K : Nat} {e : TypeId} (h : W.heap[g]? = some (.cells #[] e (0, 0))) (hb : base ≤ g) : Qw W base e K (.slice (some ⟨g, 0, none⟩) 0 0) 0 [] :=
  ⟨by simp, .inr ⟨g, 0, 0, #[], rfl, hb, h, Nat.le_refl _, by unfold maxLen; omega, by simp, by simp⟩⟩
section
variable {P : Program} (w : World)
/-- An append to a row of one's own at a step of a region that draws its order. -/
theorem step_append_ownW {ops : Array Oper} {o : Oper} {a : Act} {K : Act → World → Prop} {Q : Exit → Act → World → Prop} {E : Prop} (hgd : o.guard = none) (s x : Operand) (t : TypeId)
    (ho : o.op = .call { callee := .builtin .append, args := #[s, x], argTypes := #[t, t] })
    (base : Nat) (e : TypeId) (i : TypeInfo) (z : Value) (size bytes : Nat) (ht : P.underlying t = some (.slice e)) (hi : P.info? e = some i) (hz : i.zero = some z)
    (hsize : i.size = size) (hby : i.bytes = bytes) (hzs : z.cells.size = size) (hsz : 0 < size)
    (v : Value) (n : Nat) (xs : List Value) (hs : a.eval s = v) (hown : w.ownsRow base e size v n xs)
    (ad : Addr) (m c : Nat) (news : List Value) (hx : a.eval x = .slice (some ad) m c) (hl : news.length = m * size) (hnews : ∀ j u, news[j]? = some u → w.cell? (ad.add j) = some u) (h1 : ∀ u ∈ news, u.oneCell' = true)
    (h63 : n + m ≤ maxLen) (hbytes : (n + m) * bytes ≤ 140737488355328) (hbase : base ≤ w.heap.size)
    (h : ∀ v' w', w'.ownsRow base e size v' (n + m) (xs ++ news) → w.grownBy w' v.ownBlock → K (a.put o.dst v') w') :
    if Region.wanted o (yielded ops a.tmps) = true then Oper.wp P o a w K Q else E := by
  have hw : Region.wanted o (yielded ops a.tmps) = true := by simp [Region.wanted, hgd]
  rw [if_pos hw]
  obtain ⟨v', w', hr, h2, h3, _, _⟩ := run_append_own_at (P := P) w base t o.type e i z size bytes ht hi hz hsize hby hzs hsz v n xs hown ad m c news hl hnews h1 h63 hbytes hbase
  unfold Oper.wp execOp
  simp only [ho, resolve, invoke, builtin, Sem.run_bind, Sem.run_pure, Result.andThen_ok, List.map_toArray, List.map_cons, List.map_nil, hs, hx, hr]
  exact h v' w' h2 h3
end
theorem lit_news (w : World) (t : TypeId) (vs : List Value) (hv : vs.length ≤ 100) (h0 : 0 < vs.length) : ∀ j u, vs[j]? = some u → (w.alloc (.cells vs.toArray t)).cell? ((⟨w.heap.size, 0, none⟩ : Addr).add j) = some u := by
  obtain ⟨A, c, e, _, _, _, h4⟩ := lit_one w t vs hv
  injection e with e1
  obtain ⟨b, off, e2, hc⟩ := h4 h0
  rw [← e1] at e2
  injection e2 with e2
  injection e2 with e3 e4
  subst e3 e4
  intro j u hu
  have := hc j u hu
  rwa [Addr.add_lit]
end Go.Proofs.YtnadeddkogapoaaGreatDoor

/- An append of any slice to a row of one's own. Conditions: as each states. -/
namespace Go.Proofs.YtnadeddkogapoaaGreatDoor
open Go.ChangeShapes Go.WideShapes Go.ChangeAt Go.RowKit Go.Deep
set_option linter.unusedVariables false
set_option linter.unusedSimpArgs false
set_option maxRecDepth 100000

/-- A row of one's own that is not empty begins at its block's first cell. -/
theorem own_at {w : World} {base n k : Nat} {e : TypeId} {v : Value} {xs : List Value} (h : w.ownsRow base e k v n xs) (hn : 0 < n) : ∃ g c, v = .slice (some ⟨g, 0, none⟩) n c ∧ base ≤ g := by
  rcases h.2 with ⟨_, h0⟩ | ⟨g, cap, cur, rfl, hb, _⟩
  · omega
  · exact ⟨g, cap, rfl, hb⟩
theorem own_lower {w : World} {base base' n k : Nat} {e : TypeId} {v : Value} {xs : List Value} (h : w.ownsRow base e k v n xs) (hb : base' ≤ base) : w.ownsRow base' e k v n xs := by
  refine ⟨h.1, ?_⟩
  rcases h.2 with hn | ⟨g, cap, cur, rfl, hg, rest⟩
  · exact .inl hn
  · exact .inr ⟨g, cap, cur, rfl, Nat.le_trans hb hg, rest⟩
section
variable {P : Program} (w : World)
theorem run_append_o (base : Nat) (t ty e : TypeId) (i : TypeInfo) (z : Value) (size bytes : Nat) (ht : P.underlying t = some (.slice e)) (hi : P.info? e = some i) (hz : i.zero = some z)
    (hsize : i.size = size) (hby : i.bytes = bytes) (hzs : z.cells.size = size) (hsz : 0 < size)
    (v : Value) (n : Nat) (xs : List Value) (hown : w.ownsRow base e size v n xs)
    (x : Value) (m : Nat) (news : List Value) (hx : Sl w size x m news) (h1 : ∀ u ∈ news, u.oneCell' = true)
    (h63 : n + m ≤ maxLen) (hbytes : (n + m) * bytes ≤ 140737488355328) (hbase : base ≤ w.heap.size) :
    ∃ v' w', (Builtin.append_ #[t, t] ty #[v, x]).run P w = .ok v' w' ∧ w'.ownsRow base e size v' (n + m) (xs ++ news) ∧ w.grownBy w' v.ownBlock := by
  rcases Nat.eq_zero_or_pos m with rfl | hm
  · have hl : news.length = 0 := by obtain ⟨_, _, _, _, _, h3, _⟩ := hx; simpa using h3
    obtain rfl : news = [] := List.eq_nil_of_length_eq_zero hl
    have hsrc := hx.src (P := P) ht hsz h1
    subst hsize
    obtain ⟨A, c, rfl, hle⟩ : ∃ A c, v = .slice A n c ∧ n ≤ c := by
      rcases hown.2 with ⟨rfl, rfl⟩ | ⟨g, cap, cur, rfl, _, _, hn, _⟩
      · exact ⟨none, 0, rfl, Nat.le_refl _⟩
      · exact ⟨_, _, rfl, hn⟩
    exact ⟨_, _, run_append_nothing w t t ty e i ht hi A n c hle x hsrc, by simpa using hown, ⟨rfl, rfl, rfl, Nat.le_refl _, fun _ _ _ => rfl⟩⟩
  · obtain ⟨A, c, rfl, hc1, hc2, h3, h4⟩ := hx
    obtain ⟨b, off, rfl, hcell⟩ := h4 (by rw [h3]; exact Nat.mul_pos hm hsz)
    obtain ⟨v', w', hr, h5, h6, _, _⟩ := run_append_own_at (P := P) w base t ty e i z size bytes ht hi hz hsize hby hzs hsz v n xs hown ⟨b, off, none⟩ m c news h3 (fun j u hj => by rw [Addr.add_lit]; exact hcell j u hj) h1 h63 hbytes hbase
    exact ⟨v', w', hr, h5, h6⟩

theorem wpList_append_o {ops : Array Oper} {rest : List Oper} {o : Oper} {a : Act} {Q : Exit → Act → World → Prop} (hgd : o.guard = none) (s x : Operand) (t : TypeId)
    (ho : o.op = .call { callee := .builtin .append, args := #[s, x], argTypes := #[t, t] })
    (base : Nat) (e : TypeId) (i : TypeInfo) (z : Value) (size bytes : Nat) (ht : P.underlying t = some (.slice e)) (hi : P.info? e = some i) (hz : i.zero = some z)
    (hsize : i.size = size) (hby : i.bytes = bytes) (hzs : z.cells.size = size) (hsz : 0 < size)
    (v : Value) (n : Nat) (xs : List Value) (hs : a.eval s = v) (hown : w.ownsRow base e size v n xs)
    (xv : Value) (m : Nat) (news : List Value) (hx : a.eval x = xv) (hsl : Sl w size xv m news) (h1 : ∀ u ∈ news, u.oneCell' = true)
    (h63 : n + m ≤ maxLen) (hbytes : (n + m) * bytes ≤ 140737488355328) (hbase : base ≤ w.heap.size)
    (h : ∀ v' w', w'.ownsRow base e size v' (n + m) (xs ++ news) → w.grownBy w' v.ownBlock → wpList P ops Q rest (a.put o.dst v') w') : wpList P ops Q (o :: rest) a w := by
  refine wpList_plain hgd fun K hK => ?_
  obtain ⟨v', w', hr, h2, h3⟩ := run_append_o (P := P) w base t o.type e i z size bytes ht hi hz hsize hby hzs hsz v n xs hown xv m news hsl h1 h63 hbytes hbase
  unfold Oper.wp execOp
  simp only [ho, resolve, invoke, builtin, Sem.run_bind, Sem.run_pure, Result.andThen_ok, List.map_toArray, List.map_cons, List.map_nil, hs, hx, hr]
  exact hK _ _ (h v' w' h2 h3)
/-- The same at a step of a region that draws its order. -/
theorem step_append_o {ops : Array Oper} {o : Oper} {a : Act} {K : Act → World → Prop} {Q : Exit → Act → World → Prop} {E : Prop} (hgd : o.guard = none) (s x : Operand) (t : TypeId)
    (ho : o.op = .call { callee := .builtin .append, args := #[s, x], argTypes := #[t, t] })
    (base : Nat) (e : TypeId) (i : TypeInfo) (z : Value) (size bytes : Nat) (ht : P.underlying t = some (.slice e)) (hi : P.info? e = some i) (hz : i.zero = some z)
    (hsize : i.size = size) (hby : i.bytes = bytes) (hzs : z.cells.size = size) (hsz : 0 < size)
    (v : Value) (n : Nat) (xs : List Value) (hs : a.eval s = v) (hown : w.ownsRow base e size v n xs)
    (xv : Value) (m : Nat) (news : List Value) (hx : a.eval x = xv) (hsl : Sl w size xv m news) (h1 : ∀ u ∈ news, u.oneCell' = true)
    (h63 : n + m ≤ maxLen) (hbytes : (n + m) * bytes ≤ 140737488355328) (hbase : base ≤ w.heap.size)
    (h : ∀ v' w', w'.ownsRow base e size v' (n + m) (xs ++ news) → w.grownBy w' v.ownBlock → K (a.put o.dst v') w') :
    if Region.wanted o (yielded ops a.tmps) = true then Oper.wp P o a w K Q else E := by
  have hw : Region.wanted o (yielded ops a.tmps) = true := by simp [Region.wanted, hgd]
  rw [if_pos hw]
  obtain ⟨v', w', hr, h2, h3⟩ := run_append_o (P := P) w base t o.type e i z size bytes ht hi hz hsize hby hzs hsz v n xs hown xv m news hsl h1 h63 hbytes hbase
  unfold Oper.wp execOp
  simp only [ho, resolve, invoke, builtin, Sem.run_bind, Sem.run_pure, Result.andThen_ok, List.map_toArray, List.map_cons, List.map_nil, hs, hx, hr]
  exact h v' w' h2 h3
end
end Go.Proofs.YtnadeddkogapoaaGreatDoor

/- The frame that the laws of this seat share whose row lists package-level variables: a law that returns true and leaves what was there below the old heap as it was meets its row. Conditions: none of its own; each law pays its walk. -/
namespace Go.Proofs.YtnadeddkogapoaaGreatDoor
open Go.ChangeShapes Go.WideShapes Go.ChangeAt Go.RowKit
set_option linter.unusedVariables false
set_option maxRecDepth 100000

/-- The frame, once for all laws that list variables. -/
theorem law_laid {H : Type} {enc : TypeId × Value → H} {C : Checked} {os : Os} {f : FuncId} {fn : Func} {s : ChangeSpec} {tb : TypeId} (L : List (String × DataW Unit)) (own : ownKnob C.prog.godebug = none) (started : os.Started)
    (noInit : C.prog.inits.idxOf? f = none) (hfn : C.prog.funcs[f]? = some fn)
    (witness : ∃ (w : World) (tape : Tape) (i : Input), w.os = os ∧ (w.forCall tape i).Shaped C.prog ∧ i.vars = [] ∧ Input.okWide C.prog (w.forCall tape i) .any w.heap.size f i ∧
      ((s.pre enc C.prog fn [] false (w.forCall tape i).memory i.args ∧ laidMetH C.prog L (w.forCall tape i).memory) ∧ sizedMet enc C.prog fn (OpenSpec.ofChange s) false (w.forCall tape i).memory i.args) ∧ ({} : Assume).holds C.prog (lone (Frame.enter C.prog f i.args .normal) [] (w.forCall tape i)))
    (hl : laidOutB C.prog = true) (hr : ∀ t ∈ fn.params.toList, C.prog.readableRec t = true ∧ t < C.prog.types.size)
    (hres : fn.resultTypes = #[tb]) (htb : C.prog.underlying tb = some .bool) (hvars : s.vars = [])
    (walk : ∀ (W : World) (base : Nat) (args : Array Value) (ds : List (DataW H)) (p : List MemPlace), laidMetH C.prog L W →
      (∀ (j : Nat) t v, fn.params[j]? = some t → args[j]? = some v → Value.okWide C.prog W .any base t v) →
      DataW.TrodAll enc C.prog W 0 (fun _ => true) true fn.params.toList args.toList ds p →
      s.fn H (ds ++ []) = { results := [.lit (.bool true)], args := ds } ∧
      Calls C.prog f args W fun e w' => e = .returned (.bool true) ∧ Below W.heap.size W w') :
    ReturnsInHanded {} C os f .any (fun w args => (s.pre enc C.prog fn [] false w args ∧ laidMetH C.prog L w) ∧ sizedMet enc C.prog fn (OpenSpec.ofChange s) false w args) (s.post enc C.prog fn false true false false) := by
  refine returnsInHanded_of_change_and (C := C) (X := fun w _ => laidMetH C.prog L w) (fun _ _ _ hh h => h.of_heap hh) own started noInit hfn witness ?_
  intro W base args ds gs before hval hW _ _ hL _
  have hW' := hW
  obtain ⟨p, q, hA, hV, rfl, hfz, hnd⟩ := hW
  rw [hvars] at hV
  obtain ⟨rfl, rfl⟩ := trodVars_none hV
  obtain ⟨hspec, hcalls⟩ := walk W base args ds p hL hval hA
  exact hcalls.mono fun e W' ⟨he, hb⟩ => ⟨_, he, law_post hl hr hres htb hvars hspec hW' hb⟩
/-- The plain wrap: what else the row says and the world's shape are both handed to the contract. -/
theorem returns_and_shaped {H : Type} {enc : TypeId × Value → H} {a : Assume} {C : Checked} {os : Os} {f : FuncId} {fn : Func} {s : ChangeSpec} {conds : List PathCond} {apart fresh handsOn again : Bool} {X : World → Array Value → Prop}
    (hX : ∀ (w w' : World) (args : Array Value), w.heap = w'.heap → X w args → X w' args)
    (own : ownKnob C.prog.godebug = none) (started : os.Started) (noInit : C.prog.inits.idxOf? f = none) (hfn : C.prog.funcs[f]? = some fn)
    (witness : ∃ (w : World) (tape : Tape) (i : Input), w.os = os ∧ (w.forCall tape i).Shaped C.prog ∧ i.vars = [] ∧ Input.okWide C.prog (w.forCall tape i) .any w.heap.size f i ∧
      ((s.pre enc C.prog fn conds apart (w.forCall tape i).memory i.args ∧ X (w.forCall tape i).memory i.args) ∧ sizedMet enc C.prog fn (OpenSpec.ofChange s) apart (w.forCall tape i).memory i.args) ∧ a.holds C.prog (lone (Frame.enter C.prog f i.args .normal) [] (w.forCall tape i)))
    (contract : ∀ (W : World) (base : Nat) (args : Array Value) (ds gs : List (DataW H)) (before : List MemPlace),
      (∀ (j : Nat) t v, fn.params[j]? = some t → args[j]? = some v → Value.okWide C.prog W .any base t v) →
      DataW.Whole enc C.prog fn.params.toList s.vars apart W args.toList ds gs before → X W args → W.ShapedOpen C.prog →
      Calls C.prog f args W fun e W' => ∃ v, e = .returned v ∧ s.post enc C.prog fn apart fresh handsOn again W args v W') :
    ReturnsInHanded a C os f .any (fun w args => (s.pre enc C.prog fn conds apart w args ∧ X w args) ∧ sizedMet enc C.prog fn (OpenSpec.ofChange s) apart w args) (s.post enc C.prog fn apart fresh handsOn again) := by
  refine returnsInHanded_of_calls own started noInit witness ?_
  intro w tape i _ hsh _ hok hpre hholds
  obtain ⟨_, _, _, fn', hfn', _, _, _, _, hval⟩ := hok
  have e : fn' = fn := Option.some.inj (hfn'.symm.trans hfn)
  subst e
  obtain ⟨⟨⟨ds, gs, before, hw, hc⟩, hx⟩, hz⟩ := hpre
  have hw' := DataW.Whole.of_heap (w' := w.forCall tape i) (by rfl) hw
  refine (contract (w.forCall tape i) w.heap.size i.args ds gs before hval hw' (hX _ _ _ (by rfl) hx) hsh).mono fun e W' ⟨v, he, hp⟩ => ?_
  subst he
  exact ChangeSpec.post_blind hp
/-- The frame for laws that list variables and whose code reads a variable of the library's that is not listed. -/
theorem law_laidS {H : Type} {enc : TypeId × Value → H} {C : Checked} {os : Os} {f : FuncId} {fn : Func} {s : ChangeSpec} {tb : TypeId} (L : List (String × DataW Unit)) (own : ownKnob C.prog.godebug = none) (started : os.Started)
    (noInit : C.prog.inits.idxOf? f = none) (hfn : C.prog.funcs[f]? = some fn)
    (witness : ∃ (w : World) (tape : Tape) (i : Input), w.os = os ∧ (w.forCall tape i).Shaped C.prog ∧ i.vars = [] ∧ Input.okWide C.prog (w.forCall tape i) .any w.heap.size f i ∧
      ((s.pre enc C.prog fn [] false (w.forCall tape i).memory i.args ∧ laidMetH C.prog L (w.forCall tape i).memory) ∧ sizedMet enc C.prog fn (OpenSpec.ofChange s) false (w.forCall tape i).memory i.args) ∧ ({} : Assume).holds C.prog (lone (Frame.enter C.prog f i.args .normal) [] (w.forCall tape i)))
    (hl : laidOutB C.prog = true) (hr : ∀ t ∈ fn.params.toList, C.prog.readableRec t = true ∧ t < C.prog.types.size)
    (hres : fn.resultTypes = #[tb]) (htb : C.prog.underlying tb = some .bool) (hvars : s.vars = [])
    (walk : ∀ (W : World) (base : Nat) (args : Array Value) (ds : List (DataW H)) (p : List MemPlace), laidMetH C.prog L W → W.ShapedOpen C.prog →
      (∀ (j : Nat) t v, fn.params[j]? = some t → args[j]? = some v → Value.okWide C.prog W .any base t v) →
      DataW.TrodAll enc C.prog W 0 (fun _ => true) true fn.params.toList args.toList ds p →
      s.fn H (ds ++ []) = { results := [.lit (.bool true)], args := ds } ∧
      Calls C.prog f args W fun e w' => e = .returned (.bool true) ∧ Below W.heap.size W w') :
    ReturnsInHanded {} C os f .any (fun w args => (s.pre enc C.prog fn [] false w args ∧ laidMetH C.prog L w) ∧ sizedMet enc C.prog fn (OpenSpec.ofChange s) false w args) (s.post enc C.prog fn false true false false) := by
  refine returns_and_shaped (C := C) (X := fun w _ => laidMetH C.prog L w) (fun _ _ _ hh h => h.of_heap hh) own started noInit hfn witness ?_
  intro W base args ds gs before hval hW hL hsh
  have hW' := hW
  obtain ⟨p, q, hA, hV, rfl, hfz, hnd⟩ := hW
  rw [hvars] at hV
  obtain ⟨rfl, rfl⟩ := trodVars_none hV
  obtain ⟨hspec, hcalls⟩ := walk W base args ds p hL hsh hval hA
  exact hcalls.mono fun e W' ⟨he, hb⟩ => ⟨_, he, law_post hl hr hres htb hvars hspec hW' hb⟩
/-- A table of the library's stands while nothing below is written. -/
theorem tab_below {P : Program} {w w' : World} {name : String} {k : IntKind} {zs : List Int} {g : Nat} (hg : P.globalNamed name = some g) (h : Lib.TabIs P w name k zs) (hb : Below w.heap.size w w') : Lib.TabIs P w' name k zs := by
  unfold Lib.TabIs World.var? at *
  simp only [hg, Option.bind_some] at h ⊢
  have hlt : g < w.heap.size := by
    cases hq : w.heap[g]? with
    | none => simp [hq] at h
    | some o => exact (Array.getElem?_eq_some_iff.1 hq).1
  rw [hb.block g hlt]
  exact h
theorem gPow : Tryz.prog.globalNamed "internal/strconv.uint64pow10" = some 1 := by kernel_rfl
theorem tPow : (Tryz.prog.globals[1]?).map (·.type) = some 145 := by kernel_rfl
theorem pow_of {W : World} {a b : String × DataW Unit} {rest : List (String × DataW Unit)} (h : laidMet Tryz.prog (a :: b :: ("internal/strconv.uint64pow10", Rows.laid_internal_strconv_uint64pow10) :: rest) W) : Lib.TabIs Tryz.prog W "internal/strconv.uint64pow10" .u64 Lib.pow10Tab :=
  Lib.tabIs_of_head gPow tPow Tryz.underlying145 Tryz.underlying60 (by kernel_rfl) (by kernel_rfl) (laidMet.tail (laidMet.tail h))
theorem gLen : Tryz.prog.globalNamed "internal/bytealg.MaxLen" = some 0 := by kernel_rfl
theorem tLen : (Tryz.prog.globals[0]?).map (·.type) = some 3 := by kernel_rfl
/-- The variable holds some number. -/
def LenIs (w : World) : Prop := ∃ m : Int, w.cell? ⟨0, 0, none⟩ = some (.int .i64 m)
theorem len_of {w : World} (h : w.ShapedOpen Tryz.prog) : LenIs w := cell_of_shapedOpen_int (zero := #[.int .i64 0]) (t := 3) h (of_decide_eq_true (by kernel_rfl)) (by kernel_rfl) rfl (by kernel_rfl) (by kernel_rfl) Tryz.underlying3
theorem LenIs.below {w w' : World} (h : LenIs w) (hb : Below w.heap.size w w') : LenIs w' := by
  obtain ⟨m, h⟩ := h
  exact ⟨m, by rw [hb.cell (World.block_lt_of_cell? w _ h)]; exact h⟩
end Go.Proofs.YtnadeddkogapoaaGreatDoor

/- Contracts of the library's functions, laid by the kit's command over this seat's program, cut to what is used. Conditions: as each states. -/
namespace Go.Proofs
open Go.Shelf
def Tryz.laysM171_ren : Go.Shelf.Ren := ⟨fun | 171 => 58 | 243 => 76 | 246 => 97 | 283 => 114 | 284 => 115 | 285 => 116 | 286 => 117 | 129 => 96 | 317 => 130 | 318 => 131 | 319 => 132 | 320 => 133 | 337 => 140 | 338 => 141 | n => n, fun | 3 => 3 | 9 => 9 | 2 => 2 | 4 => 4 | 171 => 131 | 0 => 0 | 53 => 60 | 37 => 22 | 5 => 5 | 173 => 133 | 212 => 145 | 51 => 112 | 20 => 20 | 213 => 146 | 46 => 97 | 232 => 163 | 233 => 164 | n => n, fun | 17 => 1 | 18 => 6 | 19 => 7 | n => n⟩
theorem Tryz.laysM171 : Go.Proofs.LaysM.n171 Tryz.prog Tryz.laysM171_ren := {
  mixed := by kernel_rfl
  f129 := Tryz.func96.trans (congrArg some (by kernel_rfl))
  f171 := Tryz.func58.trans (congrArg some (by kernel_rfl))
  f243 := Tryz.func76.trans (congrArg some (by kernel_rfl))
  f246 := Tryz.func97.trans (congrArg some (by kernel_rfl))
  f283 := Tryz.func114.trans (congrArg some (by kernel_rfl))
  f284 := Tryz.func115.trans (congrArg some (by kernel_rfl))
  f285 := Tryz.func116.trans (congrArg some (by kernel_rfl))
  f286 := Tryz.func117.trans (congrArg some (by kernel_rfl))
  f317 := Tryz.func130.trans (congrArg some (by kernel_rfl))
  f318 := Tryz.func131.trans (congrArg some (by kernel_rfl))
  f319 := Tryz.func132.trans (congrArg some (by kernel_rfl))
  f320 := Tryz.func133.trans (congrArg some (by kernel_rfl))
  f337 := Tryz.func140.trans (congrArg some (by kernel_rfl))
  f338 := Tryz.func141.trans (congrArg some (by kernel_rfl))
  t0 := Tryz.underlying0
  a0 := Tryz.isAgg0
  z0 := Tryz.sizeOf0
  v0 := Tryz.zeroValue0
  t2 := Tryz.underlying2
  a2 := Tryz.isAgg2
  z2 := Tryz.sizeOf2
  v2 := Tryz.zeroValue2
  t3 := Tryz.underlying3
  a3 := Tryz.isAgg3
  z3 := Tryz.sizeOf3
  v3 := Tryz.zeroValue3
  t4 := Tryz.underlying4
  a4 := Tryz.isAgg4
  z4 := Tryz.sizeOf4
  v4 := Tryz.zeroValue4
  t5 := Tryz.underlying5
  a5 := Tryz.isAgg5
  z5 := Tryz.sizeOf5
  v5 := Tryz.zeroValue5
  t9 := Tryz.underlying9
  a9 := Tryz.isAgg9
  z9 := Tryz.sizeOf9
  v9 := Tryz.zeroValue9
  t20 := Tryz.underlying20
  a20 := Tryz.isAgg20
  z20 := Tryz.sizeOf20
  v20 := Tryz.zeroValue20
  t37 := Tryz.underlying22
  a37 := Tryz.isAgg22
  z37 := Tryz.sizeOf22
  v37 := Tryz.zeroValue22
  t46 := Tryz.underlying97
  a46 := Tryz.isAgg97
  z46 := Tryz.sizeOf97
  v46 := Tryz.zeroValue97
  t51 := Tryz.underlying112
  a51 := Tryz.isAgg112
  z51 := Tryz.sizeOf112
  v51 := Tryz.zeroValue112
  t53 := Tryz.underlying60
  a53 := Tryz.isAgg60
  z53 := Tryz.sizeOf60
  v53 := Tryz.zeroValue60
  t171 := Tryz.underlying131
  a171 := Tryz.isAgg131
  z171 := Tryz.sizeOf131
  v171 := Tryz.zeroValue131
  t173 := Tryz.underlying133
  a173 := Tryz.isAgg133
  z173 := Tryz.sizeOf133
  v173 := Tryz.zeroValue133
  t212 := Tryz.underlying145
  a212 := Tryz.isAgg145
  z212 := Tryz.sizeOf145
  v212 := Tryz.zeroValue145
  t213 := Tryz.underlying146
  a213 := Tryz.isAgg146
  z213 := Tryz.sizeOf146
  t232 := Tryz.underlying163
  a232 := Tryz.isAgg163
  z232 := Tryz.sizeOf163
  v232 := Tryz.zeroValue163
  t233 := Tryz.underlying164
  a233 := Tryz.isAgg164
  z233 := Tryz.sizeOf164
  v233 := Tryz.zeroValue164
  g17 := by kernel_rfl
  g18 := by kernel_rfl
  g19 := by kernel_rfl
  i0 := by kernel_rfl
  i2 := by kernel_rfl
  i3 := by kernel_rfl
  i4 := by kernel_rfl
  i5 := by kernel_rfl
  i9 := by kernel_rfl
  i20 := by kernel_rfl
  i37 := by kernel_rfl
  i46 := by kernel_rfl
  i51 := by kernel_rfl
  i53 := by kernel_rfl
  i171 := by kernel_rfl
  i173 := by kernel_rfl
  i212 := by kernel_rfl
  i232 := by kernel_rfl
  i233 := by kernel_rfl
  m17 := by kernel_rfl
  m18 := by kernel_rfl
  m19 := by kernel_rfl }
open Go.RowKit Go.Sort Go.Lib in
theorem Tryz.strconv_Itoa (n : Int) (h0 : -9223372036854775808 ≤ n) (h1 : n ≤ 9223372036854775807) (w : World) (htab : Lib.TabIs Tryz.prog w "internal/strconv.uint64pow10" .u64 Lib.pow10Tab) :
    Calls Tryz.prog 58 #[.int .i64 n] w fun e w' => e = .returned (.string ⟨(Lib.itoa n).toArray⟩) ∧ ∃ k os, w' = grow (w.drewN k) os := Any.strconv_Itoa Tryz.laysM171 n h0 h1 w htab
end Go.Proofs

/- Contracts of the checksum's functions. Conditions: none but a text's length. -/
namespace Go.Proofs.YtnadeddkogapoaaGreatDoor
open Go.ChangeShapes Go.WideShapes Go.ChangeAt Go.RowKit
set_option linter.unusedVariables false
set_option linter.unusedSimpArgs false
set_option maxRecDepth 100000

end Go.Proofs.YtnadeddkogapoaaGreatDoor

/- A byte stands in a text: the reference's search. Conditions: as each states. -/
namespace Go.Proofs.YtnadeddkogapoaaGreatDoor
open Go.ChangeShapes Go.WideShapes Go.ChangeAt Go.RowKit Go.Deep
set_option linter.unusedVariables false
set_option linter.unusedSimpArgs false
set_option maxRecDepth 100000

/-- A byte stands in a text. -/
def hasC (s : ByteArray) (c : UInt8) : Bool := s.data.toList.contains c
theorem app_size (a b : ByteArray) : (a ++ b).size = a.size + b.size := ByteArray.size_append
theorem one_size (c : UInt8) : (⟨#[c]⟩ : ByteArray).size = 1 := rfl
theorem mem_of_at {s : ByteArray} {k : Nat} (h : k < s.size) {c : UInt8} (e : s[k] = c) : hasC s c = true := by
  unfold hasC
  rw [List.contains_iff_mem, ← e]
  exact Array.mem_toList_iff.2 (Array.getElem_mem (xs := s.data) (i := k) h)
theorem not_mem_of {s : ByteArray} {c : UInt8} (h : ∀ k (hk : k < s.size), s[k] ≠ c) : hasC s c = false := by
  unfold hasC
  rw [Bool.eq_false_iff]
  intro hc
  rw [List.contains_iff_mem] at hc
  obtain ⟨k, hk, e⟩ := List.mem_iff_getElem.1 hc
  have e2 : s.data[k]'(by simpa using hk) = c := by simpa using e
  exact h k (by simpa using hk) e2
theorem u8_ne {a b : UInt8} (h : a ≠ b) : a.toNat ≠ b.toNat := fun e => h (UInt8.toNat_inj.1 e)
end Go.Proofs.YtnadeddkogapoaaGreatDoor

/- Stands for the contract of strings.Contains, which this seat does not reach. Conditions: none. -/
namespace Go.Proofs.YtnadeddkogapoaaGreatDoor
end Go.Proofs.YtnadeddkogapoaaGreatDoor

/- Contracts of the library's functions, laid by the kit's command over this seat's program, cut to what is used. Conditions: as each states. -/
namespace Go.Proofs
open Go.Shelf
def Tryz.lays172_ren : Go.Shelf.Ren := ⟨fun | 172 => 82 | 244 => 104 | 245 => 105 | 247 => 123 | 279 => 124 | 280 => 125 | 281 => 126 | 282 => 127 | 287 => 136 | 316 => 137 | 171 => 58 | 205 => 138 | 321 => 142 | 322 => 143 | 243 => 76 | 246 => 97 | 283 => 114 | 284 => 115 | 285 => 116 | 286 => 117 | 129 => 96 | 317 => 130 | 318 => 131 | 319 => 132 | 320 => 133 | 337 => 140 | 338 => 141 | n => n, fun | 9 => 9 | 3 => 3 | 75 => 84 | 76 => 85 | 4 => 4 | 5 => 5 | 167 => 135 | 37 => 22 | 0 => 0 | 85 => 136 | 2 => 2 | 168 => 138 | 53 => 60 | 175 => 153 | 46 => 97 | 210 => 157 | 127 => 98 | 145 => 162 | 143 => 160 | 21 => 21 | 171 => 131 | 173 => 133 | 212 => 145 | 51 => 112 | 20 => 20 | 213 => 146 | 232 => 163 | 233 => 164 | 80 => 87 | n => n, fun | 15 => 4 | 16 => 5 | 17 => 1 | 18 => 6 | 19 => 7 | n => n⟩
theorem Tryz.lays172 : Go.Proofs.Lays.n172 Tryz.prog Tryz.lays172_ren := {
  mixed := by kernel_rfl
  f129 := Tryz.func96.trans (congrArg some (by kernel_rfl))
  f171 := Tryz.func58.trans (congrArg some (by kernel_rfl))
  f172 := Tryz.func82.trans (congrArg some (by kernel_rfl))
  f205 := Tryz.func138.trans (congrArg some (by kernel_rfl))
  f243 := Tryz.func76.trans (congrArg some (by kernel_rfl))
  f244 := Tryz.func104.trans (congrArg some (by kernel_rfl))
  f245 := Tryz.func105.trans (congrArg some (by kernel_rfl))
  f246 := Tryz.func97.trans (congrArg some (by kernel_rfl))
  f247 := Tryz.func123.trans (congrArg some (by kernel_rfl))
  f279 := Tryz.func124.trans (congrArg some (by kernel_rfl))
  f280 := Tryz.func125.trans (congrArg some (by kernel_rfl))
  f281 := Tryz.func126.trans (congrArg some (by kernel_rfl))
  f282 := Tryz.func127.trans (congrArg some (by kernel_rfl))
  f283 := Tryz.func114.trans (congrArg some (by kernel_rfl))
  f284 := Tryz.func115.trans (congrArg some (by kernel_rfl))
  f285 := Tryz.func116.trans (congrArg some (by kernel_rfl))
  f286 := Tryz.func117.trans (congrArg some (by kernel_rfl))
  f287 := Tryz.func136.trans (congrArg some (by kernel_rfl))
  f316 := Tryz.func137.trans (congrArg some (by kernel_rfl))
  f317 := Tryz.func130.trans (congrArg some (by kernel_rfl))
  f318 := Tryz.func131.trans (congrArg some (by kernel_rfl))
  f319 := Tryz.func132.trans (congrArg some (by kernel_rfl))
  f320 := Tryz.func133.trans (congrArg some (by kernel_rfl))
  f321 := Tryz.func142.trans (congrArg some (by kernel_rfl))
  f322 := Tryz.func143.trans (congrArg some (by kernel_rfl))
  f337 := Tryz.func140.trans (congrArg some (by kernel_rfl))
  f338 := Tryz.func141.trans (congrArg some (by kernel_rfl))
  t0 := Tryz.underlying0
  a0 := Tryz.isAgg0
  z0 := Tryz.sizeOf0
  v0 := Tryz.zeroValue0
  t2 := Tryz.underlying2
  a2 := Tryz.isAgg2
  z2 := Tryz.sizeOf2
  v2 := Tryz.zeroValue2
  t3 := Tryz.underlying3
  a3 := Tryz.isAgg3
  z3 := Tryz.sizeOf3
  v3 := Tryz.zeroValue3
  t4 := Tryz.underlying4
  a4 := Tryz.isAgg4
  z4 := Tryz.sizeOf4
  v4 := Tryz.zeroValue4
  t5 := Tryz.underlying5
  a5 := Tryz.isAgg5
  z5 := Tryz.sizeOf5
  v5 := Tryz.zeroValue5
  t9 := Tryz.underlying9
  a9 := Tryz.isAgg9
  z9 := Tryz.sizeOf9
  v9 := Tryz.zeroValue9
  t20 := Tryz.underlying20
  a20 := Tryz.isAgg20
  z20 := Tryz.sizeOf20
  v20 := Tryz.zeroValue20
  t21 := Tryz.underlying21
  a21 := Tryz.isAgg21
  z21 := Tryz.sizeOf21
  v21 := Tryz.zeroValue21
  t37 := Tryz.underlying22
  a37 := Tryz.isAgg22
  z37 := Tryz.sizeOf22
  v37 := Tryz.zeroValue22
  t46 := Tryz.underlying97
  a46 := Tryz.isAgg97
  z46 := Tryz.sizeOf97
  v46 := Tryz.zeroValue97
  t51 := Tryz.underlying112
  a51 := Tryz.isAgg112
  z51 := Tryz.sizeOf112
  v51 := Tryz.zeroValue112
  t53 := Tryz.underlying60
  a53 := Tryz.isAgg60
  z53 := Tryz.sizeOf60
  v53 := Tryz.zeroValue60
  t75 := Tryz.underlying84
  a75 := Tryz.isAgg84
  z75 := Tryz.sizeOf84
  v75 := Tryz.zeroValue84
  t76 := Tryz.underlying85
  a76 := Tryz.isAgg85
  z76 := Tryz.sizeOf85
  v76 := Tryz.zeroValue85
  t85 := Tryz.underlying136
  a85 := Tryz.isAgg136
  z85 := Tryz.sizeOf136
  v85 := Tryz.zeroValue136
  t127 := Tryz.underlying98
  a127 := Tryz.isAgg98
  z127 := Tryz.sizeOf98
  v127 := Tryz.zeroValue98
  t143 := Tryz.underlying160
  a143 := Tryz.isAgg160
  z143 := Tryz.sizeOf160
  v143 := Tryz.zeroValue160
  t145 := Tryz.underlying162
  a145 := Tryz.isAgg162
  z145 := Tryz.sizeOf162
  v145 := Tryz.zeroValue162
  t167 := Tryz.underlying135
  a167 := Tryz.isAgg135
  z167 := Tryz.sizeOf135
  v167 := Tryz.zeroValue135
  t168 := Tryz.underlying138
  a168 := Tryz.isAgg138
  z168 := Tryz.sizeOf138
  v168 := Tryz.zeroValue138
  t171 := Tryz.underlying131
  a171 := Tryz.isAgg131
  z171 := Tryz.sizeOf131
  v171 := Tryz.zeroValue131
  t173 := Tryz.underlying133
  a173 := Tryz.isAgg133
  z173 := Tryz.sizeOf133
  v173 := Tryz.zeroValue133
  t175 := Tryz.underlying153
  a175 := Tryz.isAgg153
  z175 := Tryz.sizeOf153
  v175 := Tryz.zeroValue153
  t210 := Tryz.underlying157
  a210 := Tryz.isAgg157
  z210 := Tryz.sizeOf157
  v210 := Tryz.zeroValue157
  t212 := Tryz.underlying145
  a212 := Tryz.isAgg145
  z212 := Tryz.sizeOf145
  v212 := Tryz.zeroValue145
  t213 := Tryz.underlying146
  a213 := Tryz.isAgg146
  z213 := Tryz.sizeOf146
  t232 := Tryz.underlying163
  a232 := Tryz.isAgg163
  z232 := Tryz.sizeOf163
  v232 := Tryz.zeroValue163
  t233 := Tryz.underlying164
  a233 := Tryz.isAgg164
  z233 := Tryz.sizeOf164
  v233 := Tryz.zeroValue164
  g15 := by kernel_rfl
  g16 := by kernel_rfl
  g17 := by kernel_rfl
  g18 := by kernel_rfl
  g19 := by kernel_rfl }
open Go.RowKit in
theorem Tryz.strconv_Atoi (s : ByteArray) (n : Int) (hl : s.size ≤ 18) (h : Lib.atoi s.data.toList = some n) (w : World) :
    Calls Tryz.prog 82 #[.string s] w fun e w' => e = .returned (.tuple #[.int .i64 n, .nilIface]) ∧ ∃ t, w' = Lib.bytesWorld w 5 t := Any.strconv_Atoi Tryz.lays172 s n hl h w
def Tryz.laysC172_ren : Go.Shelf.Ren := ⟨fun | 172 => 82 | 244 => 104 | 245 => 105 | 247 => 123 | 279 => 124 | 280 => 125 | 281 => 126 | 282 => 127 | 287 => 136 | 316 => 137 | 171 => 58 | 205 => 138 | 321 => 142 | 322 => 143 | 243 => 76 | 246 => 97 | 283 => 114 | 284 => 115 | 285 => 116 | 286 => 117 | 129 => 96 | 317 => 130 | 318 => 131 | 319 => 132 | 320 => 133 | 337 => 140 | 338 => 141 | n => n, fun | 9 => 9 | 3 => 3 | 75 => 84 | 76 => 85 | 4 => 4 | 5 => 5 | 167 => 135 | 37 => 22 | 0 => 0 | 85 => 136 | 2 => 2 | 168 => 138 | 53 => 60 | 175 => 153 | 46 => 97 | 210 => 157 | 127 => 98 | 145 => 162 | 143 => 160 | 21 => 21 | 171 => 131 | 173 => 133 | 212 => 145 | 51 => 112 | 20 => 20 | 213 => 146 | 232 => 163 | 233 => 164 | 80 => 87 | n => n, fun | 15 => 4 | 16 => 5 | 17 => 1 | 18 => 6 | 19 => 7 | n => n⟩
theorem Tryz.laysC172 : Go.Proofs.LaysC.n172 Tryz.prog Tryz.laysC172_ren := {
  mixed := by kernel_rfl
  f129 := Tryz.func96.trans (congrArg some (by kernel_rfl))
  f171 := Tryz.func58.trans (congrArg some (by kernel_rfl))
  f172 := Tryz.func82.trans (congrArg some (by kernel_rfl))
  f205 := Tryz.func138.trans (congrArg some (by kernel_rfl))
  f243 := Tryz.func76.trans (congrArg some (by kernel_rfl))
  f244 := Tryz.func104.trans (congrArg some (by kernel_rfl))
  f245 := Tryz.func105.trans (congrArg some (by kernel_rfl))
  f246 := Tryz.func97.trans (congrArg some (by kernel_rfl))
  f247 := Tryz.func123.trans (congrArg some (by kernel_rfl))
  f279 := Tryz.func124.trans (congrArg some (by kernel_rfl))
  f280 := Tryz.func125.trans (congrArg some (by kernel_rfl))
  f281 := Tryz.func126.trans (congrArg some (by kernel_rfl))
  f282 := Tryz.func127.trans (congrArg some (by kernel_rfl))
  f283 := Tryz.func114.trans (congrArg some (by kernel_rfl))
  f284 := Tryz.func115.trans (congrArg some (by kernel_rfl))
  f285 := Tryz.func116.trans (congrArg some (by kernel_rfl))
  f286 := Tryz.func117.trans (congrArg some (by kernel_rfl))
  f287 := Tryz.func136.trans (congrArg some (by kernel_rfl))
  f316 := Tryz.func137.trans (congrArg some (by kernel_rfl))
  f317 := Tryz.func130.trans (congrArg some (by kernel_rfl))
  f318 := Tryz.func131.trans (congrArg some (by kernel_rfl))
  f319 := Tryz.func132.trans (congrArg some (by kernel_rfl))
  f320 := Tryz.func133.trans (congrArg some (by kernel_rfl))
  f321 := Tryz.func142.trans (congrArg some (by kernel_rfl))
  f322 := Tryz.func143.trans (congrArg some (by kernel_rfl))
  f337 := Tryz.func140.trans (congrArg some (by kernel_rfl))
  f338 := Tryz.func141.trans (congrArg some (by kernel_rfl))
  t0 := Tryz.underlying0
  a0 := Tryz.isAgg0
  z0 := Tryz.sizeOf0
  v0 := Tryz.zeroValue0
  t2 := Tryz.underlying2
  a2 := Tryz.isAgg2
  z2 := Tryz.sizeOf2
  v2 := Tryz.zeroValue2
  t3 := Tryz.underlying3
  a3 := Tryz.isAgg3
  z3 := Tryz.sizeOf3
  v3 := Tryz.zeroValue3
  t4 := Tryz.underlying4
  a4 := Tryz.isAgg4
  z4 := Tryz.sizeOf4
  v4 := Tryz.zeroValue4
  t5 := Tryz.underlying5
  a5 := Tryz.isAgg5
  z5 := Tryz.sizeOf5
  v5 := Tryz.zeroValue5
  t9 := Tryz.underlying9
  a9 := Tryz.isAgg9
  z9 := Tryz.sizeOf9
  v9 := Tryz.zeroValue9
  t20 := Tryz.underlying20
  a20 := Tryz.isAgg20
  z20 := Tryz.sizeOf20
  v20 := Tryz.zeroValue20
  t21 := Tryz.underlying21
  a21 := Tryz.isAgg21
  z21 := Tryz.sizeOf21
  v21 := Tryz.zeroValue21
  t37 := Tryz.underlying22
  a37 := Tryz.isAgg22
  z37 := Tryz.sizeOf22
  v37 := Tryz.zeroValue22
  t46 := Tryz.underlying97
  a46 := Tryz.isAgg97
  z46 := Tryz.sizeOf97
  v46 := Tryz.zeroValue97
  t51 := Tryz.underlying112
  a51 := Tryz.isAgg112
  z51 := Tryz.sizeOf112
  v51 := Tryz.zeroValue112
  t53 := Tryz.underlying60
  a53 := Tryz.isAgg60
  z53 := Tryz.sizeOf60
  v53 := Tryz.zeroValue60
  t75 := Tryz.underlying84
  a75 := Tryz.isAgg84
  z75 := Tryz.sizeOf84
  v75 := Tryz.zeroValue84
  t76 := Tryz.underlying85
  a76 := Tryz.isAgg85
  z76 := Tryz.sizeOf85
  v76 := Tryz.zeroValue85
  t85 := Tryz.underlying136
  a85 := Tryz.isAgg136
  z85 := Tryz.sizeOf136
  v85 := Tryz.zeroValue136
  t127 := Tryz.underlying98
  a127 := Tryz.isAgg98
  z127 := Tryz.sizeOf98
  v127 := Tryz.zeroValue98
  t143 := Tryz.underlying160
  a143 := Tryz.isAgg160
  z143 := Tryz.sizeOf160
  v143 := Tryz.zeroValue160
  t145 := Tryz.underlying162
  a145 := Tryz.isAgg162
  z145 := Tryz.sizeOf162
  v145 := Tryz.zeroValue162
  t167 := Tryz.underlying135
  a167 := Tryz.isAgg135
  z167 := Tryz.sizeOf135
  v167 := Tryz.zeroValue135
  t168 := Tryz.underlying138
  a168 := Tryz.isAgg138
  z168 := Tryz.sizeOf138
  v168 := Tryz.zeroValue138
  t171 := Tryz.underlying131
  a171 := Tryz.isAgg131
  z171 := Tryz.sizeOf131
  v171 := Tryz.zeroValue131
  t173 := Tryz.underlying133
  a173 := Tryz.isAgg133
  z173 := Tryz.sizeOf133
  v173 := Tryz.zeroValue133
  t175 := Tryz.underlying153
  a175 := Tryz.isAgg153
  z175 := Tryz.sizeOf153
  v175 := Tryz.zeroValue153
  t210 := Tryz.underlying157
  a210 := Tryz.isAgg157
  z210 := Tryz.sizeOf157
  v210 := Tryz.zeroValue157
  t212 := Tryz.underlying145
  a212 := Tryz.isAgg145
  z212 := Tryz.sizeOf145
  v212 := Tryz.zeroValue145
  t213 := Tryz.underlying146
  a213 := Tryz.isAgg146
  z213 := Tryz.sizeOf146
  t232 := Tryz.underlying163
  a232 := Tryz.isAgg163
  z232 := Tryz.sizeOf163
  v232 := Tryz.zeroValue163
  t233 := Tryz.underlying164
  a233 := Tryz.isAgg164
  z233 := Tryz.sizeOf164
  v233 := Tryz.zeroValue164
  g15 := by kernel_rfl
  g16 := by kernel_rfl
  g17 := by kernel_rfl
  g18 := by kernel_rfl
  g19 := by kernel_rfl
  t80 := Tryz.underlying87
  a80 := Tryz.isAgg87
  z80 := Tryz.sizeOf87
  v80 := Tryz.zeroValue87
  i0 := by kernel_rfl
  i2 := by kernel_rfl
  i3 := by kernel_rfl
  i4 := by kernel_rfl
  i5 := by kernel_rfl
  i9 := by kernel_rfl
  i20 := by kernel_rfl
  i21 := by kernel_rfl
  i37 := by kernel_rfl
  i46 := by kernel_rfl
  i51 := by kernel_rfl
  i53 := by kernel_rfl
  i75 := by kernel_rfl
  i76 := by kernel_rfl
  i80 := by kernel_rfl
  i85 := by kernel_rfl
  i127 := by kernel_rfl
  i143 := by kernel_rfl
  i145 := by kernel_rfl
  i167 := by kernel_rfl
  i168 := by kernel_rfl
  i171 := by kernel_rfl
  i173 := by kernel_rfl
  i175 := by kernel_rfl
  i210 := by kernel_rfl
  i212 := by kernel_rfl
  i232 := by kernel_rfl
  i233 := by kernel_rfl
  m15 := by kernel_rfl
  m16 := by kernel_rfl
  m17 := by kernel_rfl
  m18 := by kernel_rfl
  m19 := by kernel_rfl
  c0 := by kernel_rfl
  c2 := by kernel_rfl
  c3 := by kernel_rfl
  c4 := by kernel_rfl
  c5 := by kernel_rfl
  c9 := by kernel_rfl
  c20 := by kernel_rfl
  c21 := by kernel_rfl
  c37 := by kernel_rfl
  c46 := by kernel_rfl
  c51 := by kernel_rfl
  c53 := by kernel_rfl
  c75 := by kernel_rfl
  c76 := by kernel_rfl
  c80 := by kernel_rfl
  c85 := by kernel_rfl
  c127 := by kernel_rfl
  c143 := by kernel_rfl
  c145 := by kernel_rfl
  c167 := by kernel_rfl
  c168 := by kernel_rfl
  c171 := by kernel_rfl
  c173 := by kernel_rfl
  c175 := by kernel_rfl
  c210 := by kernel_rfl
  c212 := by kernel_rfl
  c213 := by kernel_rfl
  c232 := by kernel_rfl
  c233 := by kernel_rfl }
open Go.RowKit in
theorem Tryz.strconv_Atoi_err_var (s : ByteArray) (hl : s.size ≤ 18) (h : Lib.atoi s.data.toList = none) (tp : TypeId) (p : Value) (w : World) (hvar : w.var? Tryz.prog "strconv.ErrSyntax" = some #[.iface tp p]) :
    Calls Tryz.prog 82 #[.string s] w fun e w' => ∃ N, e = .returned (.tuple #[.int .i64 0, .iface 138 (.pointer (some ⟨N, 0, none⟩))]) ∧ w.heap.size ≤ N ∧ w'.heap[N]? = some (.cells #[.string ⟨#[65, 116, 111, 105]⟩, .string s, .iface tp p] 157 (0, 0)) ∧ Below w.heap.size w w' := Any.strconv_Atoi_err_var Tryz.laysC172 s hl h tp p w hvar
end Go.Proofs

/- Contracts of the functions that size and copy slices of strings. Conditions: lengths up to 1048576. -/
namespace Go.Proofs.YtnadeddkogapoaaGreatDoor
open Go.ChangeShapes Go.WideShapes Go.ChangeAt Go.RowKit Go.Deep
set_option linter.unusedVariables false
set_option linter.unusedSimpArgs false
set_option maxRecDepth 100000

/-- The bytes of strings. -/
def ssum (ss : List ByteArray) : Nat := (ss.map ByteArray.size).sum
def sszN (ss : List ByteArray) : Nat := ss.length + ssum ss
theorem sszN_len (ss : List ByteArray) : ss.length ≤ sszN ss := by unfold sszN; omega
theorem ssum_succ {ss : List ByteArray} {k : Nat} {p : ByteArray} (h : ss[k]? = some p) : ssum (ss.take (k + 1)) = ssum (ss.take k) + p.size := by
  obtain ⟨hk, rfl⟩ := List.getElem?_eq_some_iff.1 h
  unfold ssum
  rw [List.take_succ_eq_append_getElem hk, List.map_append, List.sum_append]; simp
theorem ssum_take (ss : List ByteArray) (k : Nat) : ssum (ss.take k) ≤ ssum ss := by
  unfold ssum
  conv => rhs; rw [← List.take_append_drop k ss]
  rw [List.map_append, List.sum_append]; omega
theorem ssum_mem {ss : List ByteArray} {p : ByteArray} (h : p ∈ ss) : p.size ≤ ssum ss := by
  obtain ⟨k, hk, rfl⟩ := List.mem_iff_getElem.1 h
  have h1 := ssum_succ (List.getElem?_eq_getElem hk)
  have h2 := ssum_take ss (k + 1)
  omega
theorem info_str : (Tryz.prog.info? 9).map (fun i => (i.zero, i.size, i.bytes)) = some (some (.string ⟨#[]⟩), 1, 16) := by kernel_rfl
end Go.Proofs.YtnadeddkogapoaaGreatDoor

/- Contracts of the library's functions, laid by the kit's command over this seat's program, cut to what is used. Conditions: as each states. -/
namespace Go.Proofs
open Go.Shelf
def Tryz.lays156_ren : Go.Shelf.Ren := ⟨fun | 156 => 28 | 165 => 59 | 166 => 60 | 169 => 61 | 240 => 77 | 241 => 78 | 276 => 98 | 277 => 99 | n => n, fun | 31 => 42 | 9 => 9 | 3 => 3 | 4 => 4 | 0 => 0 | 20 => 20 | 72 => 81 | 76 => 85 | 70 => 79 | 37 => 22 | 75 => 84 | 127 => 98 | 164 => 115 | 5 => 5 | 80 => 87 | n => n, fun | n => n⟩
theorem Tryz.lays156 : Go.Proofs.Lays.n156 Tryz.prog Tryz.lays156_ren := {
  mixed := by kernel_rfl
  f156 := Tryz.func28.trans (congrArg some (by kernel_rfl))
  f165 := Tryz.func59.trans (congrArg some (by kernel_rfl))
  f166 := Tryz.func60.trans (congrArg some (by kernel_rfl))
  f169 := Tryz.func61.trans (congrArg some (by kernel_rfl))
  f240 := Tryz.func77.trans (congrArg some (by kernel_rfl))
  f241 := Tryz.func78.trans (congrArg some (by kernel_rfl))
  f276 := Tryz.func98.trans (congrArg some (by kernel_rfl))
  f277 := Tryz.func99.trans (congrArg some (by kernel_rfl))
  t0 := Tryz.underlying0
  a0 := Tryz.isAgg0
  z0 := Tryz.sizeOf0
  v0 := Tryz.zeroValue0
  t3 := Tryz.underlying3
  a3 := Tryz.isAgg3
  z3 := Tryz.sizeOf3
  v3 := Tryz.zeroValue3
  t4 := Tryz.underlying4
  a4 := Tryz.isAgg4
  z4 := Tryz.sizeOf4
  v4 := Tryz.zeroValue4
  t9 := Tryz.underlying9
  a9 := Tryz.isAgg9
  z9 := Tryz.sizeOf9
  v9 := Tryz.zeroValue9
  t20 := Tryz.underlying20
  a20 := Tryz.isAgg20
  z20 := Tryz.sizeOf20
  v20 := Tryz.zeroValue20
  t31 := Tryz.underlying42
  a31 := Tryz.isAgg42
  z31 := Tryz.sizeOf42
  v31 := Tryz.zeroValue42
  t37 := Tryz.underlying22
  a37 := Tryz.isAgg22
  z37 := Tryz.sizeOf22
  v37 := Tryz.zeroValue22
  t70 := Tryz.underlying79
  a70 := Tryz.isAgg79
  z70 := Tryz.sizeOf79
  v70 := Tryz.zeroValue79
  t72 := Tryz.underlying81
  a72 := Tryz.isAgg81
  z72 := Tryz.sizeOf81
  v72 := Tryz.zeroValue81
  t75 := Tryz.underlying84
  a75 := Tryz.isAgg84
  z75 := Tryz.sizeOf84
  v75 := Tryz.zeroValue84
  t76 := Tryz.underlying85
  a76 := Tryz.isAgg85
  z76 := Tryz.sizeOf85
  v76 := Tryz.zeroValue85
  t127 := Tryz.underlying98
  a127 := Tryz.isAgg98
  z127 := Tryz.sizeOf98
  v127 := Tryz.zeroValue98
  t164 := Tryz.underlying115
  a164 := Tryz.isAgg115
  z164 := Tryz.sizeOf115
  v164 := Tryz.zeroValue115 }
theorem Tryz.Builder_Extra_156 : Builder.Extra Tryz.prog Tryz.lays156_ren := {
  sizeBuilder := by kernel_rfl
  liesBuilder := by kernel_rfl
  t5 := Tryz.underlying5
  a5 := Tryz.isAgg5
  z5 := Tryz.sizeOf5
  v5 := Tryz.zeroValue5
  infoByte := by kernel_rfl
  cellsByte := by kernel_rfl
  sizeByte := by kernel_rfl
  neB5 := by decide }
open Go.RowKit in
theorem Tryz.strings_Join (bk o c : Nat) (xs : List ByteArray) (sep : ByteArray) (w : World) (hcells : ∀ (j : Nat) x, xs[j]? = some x → w.cell? ⟨bk, o + j, none⟩ = some (.string x)) (hbk : bk < w.heap.size) (hN : xs.length ≤ 140737488355328) (hcap : xs.length ≤ c) (hlen : (Lib.join (xs.map (·.data.toList)) sep.data.toList).length ≤ 140737488355328) :
    Calls Tryz.prog 28 #[.slice (some ⟨bk, o, none⟩) xs.length c, .string sep] w fun e w' => e = .returned (.string ⟨(Lib.join (xs.map (·.data.toList)) sep.data.toList).toArray⟩) ∧ Below w.heap.size w w' := Any.strings_Join Tryz.lays156 Tryz.Builder_Extra_156 bk o c xs sep w hcells hbk hN hcap hlen
end Go.Proofs

/- JoinStrings in the program and in the reference. Conditions: as each states. -/
namespace Go.Proofs.YtnadeddkogapoaaGreatDoor
open Go.ChangeShapes Go.WideShapes Go.ChangeAt Go.RowKit Go.Deep
set_option linter.unusedVariables false
set_option linter.unusedSimpArgs false
set_option maxRecDepth 100000

/-- The first strings with a byte between them. -/
def jnS (c : UInt8) (ss : List ByteArray) (k : Nat) : ByteArray := bs (Lib.join ((ss.take k).map (·.data.toList)) [c])
theorem bs_data (x : ByteArray) : bs x.data.toList = x := by unfold bs; simp
theorem jn_zero (c : UInt8) (ss : List ByteArray) : jnS c ss 0 = ⟨#[]⟩ := rfl
theorem jn_one {c : UInt8} {ss : List ByteArray} {x : ByteArray} (h : ss[0]? = some x) : jnS c ss 1 = x := by
  cases ss with
  | nil => simp at h
  | cons y r =>
    simp at h
    subst h
    show bs (Lib.join [y.data.toList] [c]) = y
    rw [Lib.join_one, bs_data]
theorem jn_succ {c : UInt8} {ss : List ByteArray} {k : Nat} {x : ByteArray} (hk : 0 < k) (h : ss[k]? = some x) : jnS c ss (k + 1) = jnS c ss k ++ ⟨#[c]⟩ ++ x := by
  cases ss with
  | nil => simp at h
  | cons y r =>
    obtain ⟨j, rfl⟩ : ∃ j, k = j + 1 := ⟨k - 1, by omega⟩
    have h' : r[j]? = some x := by simpa using h
    have hm : (r.map (·.data.toList))[j]? = some x.data.toList := by simp [h']
    have e := Lib.joinTail_take_succ [c] (r.map (·.data.toList)) j _ hm
    unfold jnS
    rw [List.take_succ_cons, List.take_succ_cons, List.map_cons, List.map_cons, Lib.join_cons, Lib.join_cons, List.map_take, List.map_take, e]
    rw [← bs_data x]
    show _ = bs _ ++ bs [c] ++ bs _
    rw [bs_app, bs_app]
    simp [bs]
theorem jn_size {c : UInt8} {ss : List ByteArray} : ∀ {k : Nat}, 0 < k → k ≤ ss.length → (jnS c ss k).size = ssum (ss.take k) + (k - 1)
  | 0, h, _ => by omega
  | 1, _, hk => by
    obtain ⟨x, hx⟩ : ∃ x, ss[0]? = some x := ⟨_, List.getElem?_eq_getElem (by omega)⟩
    rw [jn_one hx, ssum_succ hx]; simp [ssum]
  | k + 2, _, hk => by
    obtain ⟨x, hx⟩ : ∃ x, ss[k + 1]? = some x := ⟨_, List.getElem?_eq_getElem (by omega)⟩
    have ih := jn_size (c := c) (ss := ss) (k := k + 1) (by omega) (by omega)
    rw [jn_succ (by omega) hx, ssum_succ hx, app_size, app_size, one_size, ih]; omega
/-- The strings may be joined. -/
def jnB (c : UInt8) (ss : List ByteArray) : Bool := decide (0 < ss.length) && ss.all (fun s => !hasC s c) && decide ((jnS c ss ss.length).size ≤ 4000)
def jnV (b : Bool) (t : ByteArray) : Value := if b then .tuple #[.string t, .bool true] else .tuple #[.string ⟨#[]⟩, .bool false]
theorem jnV_shape (b : Bool) (t : ByteArray) : ∃ m c, jnV b t = .tuple #[.string m, .bool c] := by cases b <;> exact ⟨_, _, rfl⟩
/-- The result of JoinStrings. -/
def joR (ss : List ByteArray) (sep : ByteArray) : Value := jnV (decide (sep.size = 1) && jnB (sep.data.getD 0 0) ss) (jnS (sep.data.getD 0 0) ss ss.length)
theorem one_of {sep : ByteArray} (h : sep.size = 1) : ∃ c, sep = ⟨#[c]⟩ := by
  obtain ⟨⟨l⟩⟩ := sep
  match l, h with
  | [c], _ => exact ⟨c, rfl⟩
theorem joR_one (ss : List ByteArray) (c : UInt8) : joR ss ⟨#[c]⟩ = jnV (jnB c ss) (jnS c ss ss.length) := by
  unfold joR
  rw [decide_eq_true (one_size c)]; rfl
theorem joR_no {ss : List ByteArray} {sep : ByteArray} (h : ¬ sep.size = 1) : joR ss sep = .tuple #[.string ⟨#[]⟩, .bool false] := by
  unfold joR
  rw [decide_eq_false h]; rfl
theorem jnB_zero {c : UInt8} {ss : List ByteArray} (h : ss.length = 0) : jnB c ss = false := by unfold jnB; simp [h]
theorem jnB_has {c : UInt8} {ss : List ByteArray} {k : Nat} {x : ByteArray} (hx : ss[k]? = some x) (h : hasC x c = true) : jnB c ss = false := by
  unfold jnB
  have : ss.all (fun s => !hasC s c) = false := by
    rw [List.all_eq_false]
    exact ⟨x, List.mem_of_getElem? hx, by simp [h]⟩
  rw [this]; simp
theorem jnB_long {c : UInt8} {ss : List ByteArray} {k : Nat} (hk : k ≤ ss.length) (h0 : 0 < k) (h : 4000 < ssum (ss.take k) + (ss.length - 1)) : jnB c ss = false := by
  unfold jnB
  have h1 := jn_size (c := c) (ss := ss) (k := ss.length) (by omega) (Nat.le_refl _)
  rw [List.take_length] at h1
  have h2 := ssum_take ss k
  rw [decide_eq_false (show ¬ (jnS c ss ss.length).size ≤ 4000 by omega), Bool.and_false]
theorem jnB_grow {c : UInt8} {ss : List ByteArray} {k : Nat} (hk : k ≤ ss.length) (h0 : 0 < k) (h : 4000 < (jnS c ss k).size) : jnB c ss = false := by
  refine jnB_long hk h0 ?_
  rw [jn_size h0 hk] at h
  omega
theorem jnB_yes {c : UInt8} {ss : List ByteArray} (h0 : 0 < ss.length) (h1 : ∀ (j : Nat) x, ss[j]? = some x → hasC x c = false) (h2 : (jnS c ss ss.length).size ≤ 4000) : jnB c ss = true := by
  unfold jnB
  have : ss.all (fun s => !hasC s c) = true := by
    rw [List.all_eq_true]
    intro s hs
    obtain ⟨j, hj⟩ := List.getElem?_of_mem hs
    simp [h1 j s hj]
  rw [decide_eq_true h0, this, decide_eq_true h2]; rfl
theorem nil_app (x : ByteArray) : (⟨#[]⟩ : ByteArray) ++ x = x := by
  rw [← bs_data x]
  show bs [] ++ bs _ = _
  rw [bs_app]; rfl
theorem jnS_app {c : UInt8} {ss : List ByteArray} {k : Nat} (h0 : 0 < k) (hk : k ≤ ss.length) : (jnS c ss k).size ≤ ssum ss + ss.length := by
  rw [jn_size h0 hk]
  have := ssum_take ss k
  omega
end Go.Proofs.YtnadeddkogapoaaGreatDoor

/- A terrain's box in memory. Conditions: none. -/
namespace Go.Proofs.YtnadeddkogapoaaGreatDoor
open Go.ChangeShapes Go.WideShapes Go.ChangeAt Go.RowKit Go.Deep
set_option linter.unusedVariables false

theorem two_news (w : World) (o p : Obj) : Below w.heap.size w ((w.alloc o).alloc p) := grow_trans (grow_alloc _ _) (grow_alloc _ _)
/-- A terrain's box. -/
def TB (w : World) (B : Nat) (x y : Int) (u : Value) : Prop := w.cell? ⟨B, 0, none⟩ = some (.int .i64 x) ∧ w.cell? ⟨B, 1, none⟩ = some (.int .i64 y) ∧ w.cell? ⟨B, 2, none⟩ = some u
theorem cell_below {w w' : World} {B o : Nat} {v : Value} (h : w.cell? ⟨B, o, none⟩ = some v) (hb : Below w.heap.size w w') : w'.cell? ⟨B, o, none⟩ = some v := by
  rw [hb.cell (World.block_lt_of_cell? w _ h)]; exact h
theorem TB.below {w w' : World} {B : Nat} {x y : Int} {u : Value} (h : TB w B x y u) (hb : Below w.heap.size w w') : TB w' B x y u :=
  ⟨cell_below h.1 hb, cell_below h.2.1 hb, cell_below h.2.2 hb⟩
theorem cell_lt {w : World} {B o : Nat} {v : Value} (h : w.cell? ⟨B, o, none⟩ = some v) : B < w.heap.size := World.block_lt_of_cell? w _ h
theorem TB.kept {w w' : World} {B : Nat} {x y : Int} {u : Value} {row : Option Nat} (h : TB w B x y u) (hg : w.grownBy w' row) (hne : some B ≠ row) : TB w' B x y u :=
  ⟨hg.cell h.1 hne, hg.cell h.2.1 hne, hg.cell h.2.2 hne⟩
end Go.Proofs.YtnadeddkogapoaaGreatDoor

/- Lists of numbers: whether one is in a list, whether a list rises. Conditions: as each states. -/
namespace Go.Proofs.YtnadeddkogapoaaGreatDoor
open Go.ChangeShapes Go.WideShapes Go.ChangeAt Go.RowKit
set_option linter.unusedVariables false
set_option linter.unusedSimpArgs false
set_option maxRecDepth 100000

/-- A number is in a list. -/
def hasB (zs : List Int) (c : Int) : Bool := zs.any fun z => z == c
theorem hasB_yes {zs : List Int} {c : Int} {k : Nat} (h : zs[k]? = some c) : hasB zs c = true := by
  unfold hasB; rw [List.any_eq_true]; exact ⟨c, List.mem_of_getElem? h, by simp⟩
theorem hasB_no {zs : List Int} {c : Int} (h : ∀ (j : Nat) (z : Int), zs[j]? = some z → z ≠ c) : hasB zs c = false := by
  unfold hasB; rw [List.any_eq_false]
  intro z hz
  obtain ⟨j, hj, rfl⟩ := List.mem_iff_getElem.1 hz
  simpa using h j _ (List.getElem?_eq_getElem hj)
/-- One element of a list is greater than the one before it. -/
def upAt (zs : List Int) (i : Nat) : Bool := match i with | 0 => true | j + 1 => decide (zs.getD j 0 < zs.getD (j + 1) 0)
/-- A list rises. -/
def risB (zs : List Int) : Bool := (List.range zs.length).all (upAt zs)
theorem risB_no {zs : List Int} {i : Nat} (hi : i < zs.length) (h : upAt zs i = false) : risB zs = false := by
  unfold risB; rw [List.all_eq_false]; exact ⟨i, by simpa using hi, by simp [h]⟩
theorem risB_yes {zs : List Int} (h : ∀ i, i < zs.length → upAt zs i = true) : risB zs = true := by
  unfold risB; rw [List.all_eq_true]; intro i hi; exact h i (by simpa using hi)
/-- A list rises within bounds. -/
def setB (zs : List Int) (lo hi : Int) : Bool := (List.range zs.length).all fun i => inB (zs.getD i 0) lo hi && upAt zs i
theorem setB_no {zs : List Int} {lo hi : Int} {i : Nat} (hi' : i < zs.length) (h : (inB (zs.getD i 0) lo hi && upAt zs i) = false) : setB zs lo hi = false := by
  unfold setB; rw [List.all_eq_false]; exact ⟨i, by simpa using hi', by rw [h]; simp⟩
theorem setB_yes {zs : List Int} {lo hi : Int} (h : ∀ i, i < zs.length → (inB (zs.getD i 0) lo hi && upAt zs i) = true) : setB zs lo hi = true := by
  unfold setB; rw [List.all_eq_true]; intro i hi'; exact h i (by simpa using hi')
end Go.Proofs.YtnadeddkogapoaaGreatDoor

/- Whether a list rises within bounds, in the reference. Conditions: none. -/
namespace Go.Proofs.YtnadeddkogapoaaGreatDoor
open Go.ChangeShapes Go.WideShapes Go.ChangeAt Go.RowKit
set_option linter.unusedVariables false
set_option linter.unusedSimpArgs false
set_option maxRecDepth 100000

end Go.Proofs.YtnadeddkogapoaaGreatDoor

/- The program's has and filter over numbers. Conditions: as each states. -/
namespace Go.Proofs.YtnadeddkogapoaaGreatDoor
open Go.ChangeShapes Go.WideShapes Go.ChangeAt Go.RowKit Go.Deep
set_option linter.unusedVariables false
set_option linter.unusedSimpArgs false
set_option maxRecDepth 100000

theorem filt_yes {zs : List Int} {p : Int → Bool} {k : Nat} {z : Int} (h : zs[k]? = some z) (hp : p z = true) : (zs.take (k + 1)).filter p = (zs.take k).filter p ++ [z] := by
  obtain ⟨hk, rfl⟩ := List.getElem?_eq_some_iff.1 h
  rw [List.take_succ_eq_append_getElem hk, List.filter_append]; simp [hp]
theorem filt_no {zs : List Int} {p : Int → Bool} {k : Nat} {z : Int} (h : zs[k]? = some z) (hp : p z = false) : (zs.take (k + 1)).filter p = (zs.take k).filter p := by
  obtain ⟨hk, rfl⟩ := List.getElem?_eq_some_iff.1 h
  rw [List.take_succ_eq_append_getElem hk, List.filter_append]; simp [hp]
theorem filt_le (zs : List Int) (p : Int → Bool) (k : Nat) : ((zs.take k).filter p).length ≤ k := Nat.le_trans (List.length_filter_le _ _) (by simp; omega)
theorem own_add {B : Nat} {e : TypeId} {w1 : World} {v : Value} {xs ys : List Int} {x : Int} (hy : ys = xs ++ [x]) (h : w1.ownsRow B e 1 v (xs.length + 1) (ints xs ++ [.int .i64 x])) : w1.ownsRow B e 1 v ys.length (ints ys) := by
  rw [hy]; simpa using h
end Go.Proofs.YtnadeddkogapoaaGreatDoor

/- Contracts of the library's functions, laid by the kit's command over this seat's program, cut to what is used. Conditions: as each states. -/
namespace Go.Proofs
open Go.Shelf
def Tryz.lays146_ren : Go.Shelf.Ren := ⟨fun | 146 => 33 | 221 => 65 | 268 => 79 | 138 => 80 | 143 => 81 | 195 => 100 | 197 => 101 | 218 => 102 | 219 => 103 | 260 => 118 | 217 => 119 | 225 => 120 | 224 => 121 | 267 => 122 | 266 => 134 | 314 => 135 | n => n, fun | 9 => 9 | 31 => 42 | 3 => 3 | 4 => 4 | 0 => 0 | 105 => 119 | 21 => 21 | 5 => 5 | 46 => 97 | 119 => 147 | 139 => 150 | 138 => 149 | 146 => 151 | 51 => 112 | n => n, fun | 1 => 0 | 3 => 2 | 4 => 3 | n => n⟩
theorem Tryz.lays146 : Go.Proofs.Lays.n146 Tryz.prog Tryz.lays146_ren := {
  mixed := by kernel_rfl
  f138 := Tryz.func80.trans (congrArg some (by kernel_rfl))
  f143 := Tryz.func81.trans (congrArg some (by kernel_rfl))
  f146 := Tryz.func33.trans (congrArg some (by kernel_rfl))
  f195 := Tryz.func100.trans (congrArg some (by kernel_rfl))
  f197 := Tryz.func101.trans (congrArg some (by kernel_rfl))
  f217 := Tryz.func119.trans (congrArg some (by kernel_rfl))
  f218 := Tryz.func102.trans (congrArg some (by kernel_rfl))
  f219 := Tryz.func103.trans (congrArg some (by kernel_rfl))
  f221 := Tryz.func65.trans (congrArg some (by kernel_rfl))
  f224 := Tryz.func121.trans (congrArg some (by kernel_rfl))
  f225 := Tryz.func120.trans (congrArg some (by kernel_rfl))
  f260 := Tryz.func118.trans (congrArg some (by kernel_rfl))
  f266 := Tryz.func134.trans (congrArg some (by kernel_rfl))
  f267 := Tryz.func122.trans (congrArg some (by kernel_rfl))
  f268 := Tryz.func79.trans (congrArg some (by kernel_rfl))
  f314 := Tryz.func135.trans (congrArg some (by kernel_rfl))
  t0 := Tryz.underlying0
  a0 := Tryz.isAgg0
  z0 := Tryz.sizeOf0
  v0 := Tryz.zeroValue0
  t3 := Tryz.underlying3
  a3 := Tryz.isAgg3
  z3 := Tryz.sizeOf3
  v3 := Tryz.zeroValue3
  t4 := Tryz.underlying4
  a4 := Tryz.isAgg4
  z4 := Tryz.sizeOf4
  v4 := Tryz.zeroValue4
  t5 := Tryz.underlying5
  a5 := Tryz.isAgg5
  z5 := Tryz.sizeOf5
  v5 := Tryz.zeroValue5
  t9 := Tryz.underlying9
  a9 := Tryz.isAgg9
  z9 := Tryz.sizeOf9
  v9 := Tryz.zeroValue9
  t21 := Tryz.underlying21
  a21 := Tryz.isAgg21
  z21 := Tryz.sizeOf21
  v21 := Tryz.zeroValue21
  t31 := Tryz.underlying42
  a31 := Tryz.isAgg42
  z31 := Tryz.sizeOf42
  v31 := Tryz.zeroValue42
  t46 := Tryz.underlying97
  a46 := Tryz.isAgg97
  z46 := Tryz.sizeOf97
  v46 := Tryz.zeroValue97
  t51 := Tryz.underlying112
  a51 := Tryz.isAgg112
  z51 := Tryz.sizeOf112
  v51 := Tryz.zeroValue112
  t105 := Tryz.underlying119
  a105 := Tryz.isAgg119
  z105 := Tryz.sizeOf119
  v105 := Tryz.zeroValue119
  t119 := Tryz.underlying147
  a119 := Tryz.isAgg147
  z119 := Tryz.sizeOf147
  t138 := Tryz.underlying149
  a138 := Tryz.isAgg149
  z138 := Tryz.sizeOf149
  v138 := Tryz.zeroValue149
  t139 := Tryz.underlying150
  a139 := Tryz.isAgg150
  z139 := Tryz.sizeOf150
  v139 := Tryz.zeroValue150
  t146 := Tryz.underlying151
  a146 := Tryz.isAgg151
  z146 := Tryz.sizeOf151
  v146 := Tryz.zeroValue151
  g1 := by kernel_rfl
  g3 := by kernel_rfl
  g4 := by kernel_rfl }
open Go.RowKit Go.Lib in
theorem Tryz.strings_Split (s sep : ByteArray) (m : Int) (w : World) (hs : s.size < 4294967281) (hm : w.cell? ⟨0, 0, none⟩ = some (.int .i64 m)) (h1 : 1 ≤ sep.size) :
    Calls Tryz.prog 33 #[.string s, .string sep] w fun e w' =>
      e = .returned (.slice (some ⟨w.heap.size, 0, none⟩) (Lib.countB s sep + 1) (Lib.countB s sep + 1)) ∧ w' = w.alloc (.cells ((Lib.splitB sep 0 (Lib.countB s sep) s).map Value.string).toArray 9) := Any.strings_Split Tryz.lays146 (by kernel_rfl) s sep m w hs hm h1
end Go.Proofs

/- A name put into a sorted list of names; the sorted list is one. Plain law. Conditions: as each states. -/
namespace Go.Proofs.YtnadeddkogapoaaGreatDoor
set_option linter.unusedVariables false
set_option linter.unusedSimpArgs false

theorem ins_perm (ls : List (List UInt8)) (x : List UInt8) (k : Nat) : (ls.take k ++ [x] ++ ls.drop k).Perm (x :: ls) := by
  have h : (ls.take k ++ [x] ++ ls.drop k).Perm (x :: (ls.take k ++ ls.drop k)) := by
    rw [List.append_assoc]
    exact List.perm_middle
  rwa [List.take_append_drop] at h
theorem ins_sorted {ls : List (List UInt8)} {x : List UInt8} {k : Nat} (hk : k ≤ ls.length) (h : ls.Pairwise (· ≤ ·)) (h1 : ∀ j y, k ≤ j → ls[j]? = some y → x < y) (h2 : ∀ y, 0 < k → ls[k - 1]? = some y → ¬ x < y) :
    (ls.take k ++ [x] ++ ls.drop k).Pairwise (· ≤ ·) := by
  have hs := h
  rw [← List.take_append_drop k ls, List.pairwise_append] at hs
  obtain ⟨s1, s2, s3⟩ := hs
  have up : ∀ y ∈ ls.drop k, x < y := by
    intro y hy
    obtain ⟨j, hj, rfl⟩ := List.mem_iff_getElem.1 hy
    refine h1 (k + j) _ (by omega) ?_
    rw [List.getElem_drop, List.getElem?_eq_getElem]
  have lo : ∀ y ∈ ls.take k, y ≤ x := by
    intro y hy
    obtain ⟨j, hj, rfl⟩ := List.mem_iff_getElem.1 hy
    rw [List.length_take] at hj
    have hk0 : k - 1 < ls.length := by omega
    have hl : ls[k - 1] ≤ x := List.not_lt.1 (h2 _ (by omega) (List.getElem?_eq_getElem hk0))
    rw [List.getElem_take]
    by_cases e : j = k - 1
    · subst e; exact hl
    · exact List.le_trans (List.pairwise_iff_getElem.1 h j (k - 1) (by omega) hk0 (by omega)) hl
  rw [List.append_assoc, List.pairwise_append]
  refine ⟨s1, ?_, ?_⟩
  · rw [List.singleton_append, List.pairwise_cons]
    exact ⟨fun y hy => List.le_of_lt (up y hy), s2⟩
  · intro a ha b hb
    rw [List.singleton_append, List.mem_cons] at hb
    rcases hb with rfl | hb
    · exact lo a ha
    · exact s3 a ha b hb
theorem sort_uniq {ls ms : List (List UInt8)} (hp : ls.Perm ms) (h : ls.Pairwise (· ≤ ·)) : ms.mergeSort (fun x y => decide (x ≤ y)) = ls := by
  have hq : (ms.mergeSort (fun x y => decide (x ≤ y))).Perm ls := (List.mergeSort_perm ms _).trans hp.symm
  have hs : (ms.mergeSort (fun x y => decide (x ≤ y))).Pairwise (fun a b : List UInt8 => decide (a ≤ b) = true) :=
    List.pairwise_mergeSort (fun a b c h1 h2 => by simp only [decide_eq_true_eq] at *; exact List.le_trans h1 h2) (fun a b => by simp only [Bool.or_eq_true, decide_eq_true_eq]; exact List.le_total a b) ms
  have hs2 : (ms.mergeSort (fun x y => decide (x ≤ y))).Pairwise (fun a b : List UInt8 => a ≤ b) := hs.imp (by intro a b h; simpa using h)
  exact hq.eq_of_pairwise (fun a b _ _ h1 h2 => List.le_antisymm h1 h2) hs2 h
end Go.Proofs.YtnadeddkogapoaaGreatDoor

/- Contracts of the library's functions, laid by the kit's command over this seat's program, cut to what is used. Conditions: as each states. -/
namespace Go.Proofs
open Go.Shelf
def Tryz.lays190_ren : Go.Shelf.Ren := ⟨fun | 190 => 50 | 125 => 74 | 258 => 73 | 128 => 95 | 129 => 96 | 302 => 86 | 303 => 87 | 304 => 88 | 305 => 89 | 306 => 90 | 307 => 91 | 308 => 92 | 309 => 93 | 310 => 94 | 333 => 108 | 329 => 109 | 330 => 110 | 334 => 111 | 335 => 112 | 336 => 113 | 344 => 129 | n => n, fun | 31 => 42 | 9 => 9 | 3 => 3 | 46 => 97 | 0 => 0 | 51 => 112 | 53 => 60 | 4 => 4 | 183 => 105 | 182 => 104 | 131 => 46 | 5 => 5 | 218 => 125 | 222 => 129 | 228 => 141 | 229 => 142 | n => n, fun | n => n⟩
theorem Tryz.lays190 : Go.Proofs.Lays.n190 Tryz.prog Tryz.lays190_ren := {
  mixed := by kernel_rfl
  f125 := Tryz.func74.trans (congrArg some (by kernel_rfl))
  f128 := Tryz.func95.trans (congrArg some (by kernel_rfl))
  f129 := Tryz.func96.trans (congrArg some (by kernel_rfl))
  f190 := Tryz.func50.trans (congrArg some (by kernel_rfl))
  f258 := Tryz.func73.trans (congrArg some (by kernel_rfl))
  f302 := Tryz.func86.trans (congrArg some (by kernel_rfl))
  f303 := Tryz.func87.trans (congrArg some (by kernel_rfl))
  f304 := Tryz.func88.trans (congrArg some (by kernel_rfl))
  f305 := Tryz.func89.trans (congrArg some (by kernel_rfl))
  f306 := Tryz.func90.trans (congrArg some (by kernel_rfl))
  f307 := Tryz.func91.trans (congrArg some (by kernel_rfl))
  f308 := Tryz.func92.trans (congrArg some (by kernel_rfl))
  f309 := Tryz.func93.trans (congrArg some (by kernel_rfl))
  f310 := Tryz.func94.trans (congrArg some (by kernel_rfl))
  f329 := Tryz.func109.trans (congrArg some (by kernel_rfl))
  f330 := Tryz.func110.trans (congrArg some (by kernel_rfl))
  f333 := Tryz.func108.trans (congrArg some (by kernel_rfl))
  f334 := Tryz.func111.trans (congrArg some (by kernel_rfl))
  f335 := Tryz.func112.trans (congrArg some (by kernel_rfl))
  f336 := Tryz.func113.trans (congrArg some (by kernel_rfl))
  f344 := Tryz.func129.trans (congrArg some (by kernel_rfl))
  t0 := Tryz.underlying0
  a0 := Tryz.isAgg0
  z0 := Tryz.sizeOf0
  v0 := Tryz.zeroValue0
  t3 := Tryz.underlying3
  a3 := Tryz.isAgg3
  z3 := Tryz.sizeOf3
  v3 := Tryz.zeroValue3
  t4 := Tryz.underlying4
  a4 := Tryz.isAgg4
  z4 := Tryz.sizeOf4
  v4 := Tryz.zeroValue4
  t5 := Tryz.underlying5
  a5 := Tryz.isAgg5
  z5 := Tryz.sizeOf5
  v5 := Tryz.zeroValue5
  t9 := Tryz.underlying9
  a9 := Tryz.isAgg9
  z9 := Tryz.sizeOf9
  v9 := Tryz.zeroValue9
  t31 := Tryz.underlying42
  a31 := Tryz.isAgg42
  z31 := Tryz.sizeOf42
  v31 := Tryz.zeroValue42
  t46 := Tryz.underlying97
  a46 := Tryz.isAgg97
  z46 := Tryz.sizeOf97
  v46 := Tryz.zeroValue97
  t51 := Tryz.underlying112
  a51 := Tryz.isAgg112
  z51 := Tryz.sizeOf112
  v51 := Tryz.zeroValue112
  t53 := Tryz.underlying60
  a53 := Tryz.isAgg60
  z53 := Tryz.sizeOf60
  v53 := Tryz.zeroValue60
  t131 := Tryz.underlying46
  a131 := Tryz.isAgg46
  z131 := Tryz.sizeOf46
  v131 := Tryz.zeroValue46
  t182 := Tryz.underlying104
  a182 := Tryz.isAgg104
  z182 := Tryz.sizeOf104
  v182 := Tryz.zeroValue104
  t183 := Tryz.underlying105
  a183 := Tryz.isAgg105
  z183 := Tryz.sizeOf105
  v183 := Tryz.zeroValue105
  t218 := Tryz.underlying125
  a218 := Tryz.isAgg125
  z218 := Tryz.sizeOf125
  v218 := Tryz.zeroValue125
  t222 := Tryz.underlying129
  a222 := Tryz.isAgg129
  z222 := Tryz.sizeOf129
  v222 := Tryz.zeroValue129
  t228 := Tryz.underlying141
  a228 := Tryz.isAgg141
  z228 := Tryz.sizeOf141
  v228 := Tryz.zeroValue141
  t229 := Tryz.underlying142
  a229 := Tryz.isAgg142
  z229 := Tryz.sizeOf142
  v229 := Tryz.zeroValue142 }
open Go.Sort Go.RowKit in
theorem Tryz.slices_Sort_string (blk off cap : Nat) (ss : List (List UInt8)) (w : World) (hH : Holds encStr w blk off ss.toArray) (hblk : blk < w.heap.size) (hsz : ss.length < 4611686018427387904) :
    Calls Tryz.prog 50 #[.slice (some ⟨blk, off, none⟩) ss.length cap] w fun e w' =>
      e = .returned (.tuple #[]) ∧ ∃ n os, w' = grow (putRow encStr (Sort.ahead w n) blk off (ss.mergeSort fun x y => decide (x ≤ y)).toArray) os := Any.slices_Sort_string Tryz.lays190 blk off cap ss w hH hblk hsz
end Go.Proofs
