/- Two readings of one slice value are one list; the predicate that two regions share. Conditions: none. -/
import Derived.Test.YtefampjmbjbhcaaReg2
namespace Go.Proofs.Ytefampjmbjbhcaa
open Go.ChangeShapes Go.WideShapes Go.ChangeAt Go.RowKit Go.Deep
set_option linter.unusedVariables false
set_option linter.unusedSimpArgs false
set_option maxRecDepth 100000

theorem Sl.uniq {w : World} {v : Value} {xs bs : List Int} (ha : Sl w 1 v xs.length (ints xs)) (hb : Sl w 1 v bs.length (ints bs)) : xs = bs := by
  obtain ⟨A, c, rfl⟩ := ha.val
  have hl : xs.length = bs.length := by
    obtain ⟨A', c', e, _⟩ := hb
    injection e
  apply List.ext_getElem hl
  intro i h1 h2
  obtain ⟨b, off, x, rfl, hx, hcx⟩ := ha.at1 rfl h1
  have hb' : Sl w 1 (.slice (some ⟨b, off, none⟩) bs.length c) bs.length (ints bs) := by rw [← hl]; rw [← hl] at hb; exact hb
  obtain ⟨b', off', y, e, hy, hcy⟩ := hb'.at1 rfl h2
  cases e
  rw [hcx] at hcy
  have hxy : x = y := by injection hcy with e; injection e
  rw [List.getElem?_eq_getElem h1] at hx
  rw [List.getElem?_eq_getElem h2] at hy
  rw [Option.some.inj hx, Option.some.inj hy, hxy]
end Go.Proofs.Ytefampjmbjbhcaa
