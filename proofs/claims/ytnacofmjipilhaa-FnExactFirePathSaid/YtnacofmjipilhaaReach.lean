/- What is reached from a start by steps; two forms of a search. Plain Lean. Conditions: none. -/
import Derived.Test.YtnacofmjipilhaaRise
namespace Go.Proofs.Ytnacofmjipilhaa
set_option linter.unusedVariables false
set_option linter.unusedSimpArgs false
/-- What is reached from a start by steps. -/
inductive Rch (S : Int → Prop) (st : Int → Int → Prop) : Int → Prop
  | base {c} : S c → Rch S st c
  | step {a b} : Rch S st a → st a b → Rch S st b
theorem Rch.sub {S : Int → Prop} {st : Int → Int → Prop} {T : Int → Prop} (h0 : ∀ c, S c → T c) (h1 : ∀ a b, T a → st a b → T b) : ∀ {c}, Rch S st c → T c := by
  intro c h
  induction h with
  | base h => exact h0 _ h
  | step _ h ih => exact h1 _ _ ih h
theorem Rch.mono {S S' : Int → Prop} {st st' : Int → Int → Prop} (h0 : ∀ c, S c → S' c) (h1 : ∀ a b, Rch S' st' a → st a b → st' a b) : ∀ {c}, Rch S st c → Rch S' st' c :=
  fun h => h.sub (T := Rch S' st') (fun c hc => .base (h0 c hc)) (fun a b ha hs => .step ha (h1 a b ha hs))
theorem Rch.trans {S : Int → Prop} {st : Int → Int → Prop} {a : Int} (ha : Rch S st a) : ∀ {c}, Rch (· = a) st c → Rch S st c :=
  fun h => h.sub (fun c hc => hc ▸ ha) (fun x y hx hs => .step hx hs)
/-- Steps that go both ways lead back. -/
theorem Rch.symm {st : Int → Int → Prop} (hs : ∀ a b, st a b → st b a) {a : Int} : ∀ {c}, Rch (· = a) st c → Rch (· = c) st a := by
  intro c h
  induction h with
  | base h => subst h; exact .base rfl
  | step h1 h2 ih => exact Rch.trans (Rch.step (S := fun x => x = _) (.base rfl) (hs _ _ h2)) ih
/-- A search's state: what was found, what is to come; it is sound, it holds the start, and it is closed but for what is to come. -/
structure Srch (S : Int → Prop) (st : Int → Int → Prop) (found todo : Int → Prop) : Prop where
  sound : ∀ c, found c → Rch S st c
  start : ∀ c, S c → found c
  shut : ∀ a b, found a → ¬ todo a → st a b → found b
theorem Srch.ends {S : Int → Prop} {st : Int → Int → Prop} {found todo : Int → Prop} (h : Srch S st found todo) (ht : ∀ c, ¬ todo c) : ∀ c, found c ↔ Rch S st c :=
  fun c => ⟨h.sound c, fun hr => hr.sub h.start fun a b ha hs => h.shut a b ha (ht a) hs⟩
/-- A search that finds when it takes up: ok says what may be found. -/
structure Srch2 (S : Int → Prop) (st : Int → Int → Prop) (ok found todo : Int → Prop) : Prop where
  sound : ∀ c, found c → Rch S st c
  soon : ∀ c, todo c → ok c → Rch S st c
  start : ∀ c, S c → found c ∨ todo c
  shut : ∀ a b, found a → st a b → found b ∨ todo b
theorem Srch2.ends {S : Int → Prop} {st : Int → Int → Prop} {ok found todo : Int → Prop} (h : Srch2 S st ok found todo) (ht : ∀ c, ¬ todo c) : ∀ c, found c ↔ Rch S st c :=
  fun c => ⟨h.sound c, fun hr => hr.sub (fun c hc => (h.start c hc).resolve_right (ht c)) fun a b ha hs => (h.shut a b ha hs).resolve_right (ht b)⟩
end Go.Proofs.Ytnacofmjipilhaa
