/- A text among the arguments. No condition. -/
import Derived.Test.YtgonklbjbgekoaaDoorFrame
import Derived.Test.YtgonklbjbgekoaaDoorMap
import Derived.SizedLaws
namespace Go.Proofs.YtgonklbjbgekoaaDoor
open Go Go.RowKit Go.WideShapes Go.ChangeShapes

set_option maxRecDepth 100000 in
theorem open_txt {H : Type} {enc : TypeId × Value → H} {w : World} {base b0 : Nat} {spare : Nat → Bool} {held : Bool} {r : Reach} {v : Value} {d : DataW H} {ps : List MemPlace}
    (hval : Value.okWide Tryd.prog w r b0 9 v) (h : DataW.Trod enc Tryd.prog w base spare held 9 v d ps) : ∃ k : Txt, v = txt k ∧ d = .lit (.string k) ∧ ps = [] := by
  obtain ⟨s, rfl⟩ := okWide_string Tryd.underlying9 hval
  obtain ⟨fuel, hf⟩ := h
  obtain ⟨s', h1, h2, _⟩ := DataW.trod_string Tryd.underlying9 hf
  simp [Value.cells] at h1
  subst h1
  simp only [Prod.mk.injEq] at h2
  exact ⟨s.data.toList, by simp [txt], h2.1, h2.2⟩
set_option maxRecDepth 100000 in
theorem txt_small {H : Type} {ts : List TypeId} {ds : List (DataW H)} (h : (DataW.weightsEach Tryd.prog ts ds).all (· ≤ reachBytes) = true) {j : Nat} {k : Txt} (ht : ts[j]? = some 9) (hj : ds[j]? = some (.lit (.string k))) : k.length ≤ 140737488355328 := by
  have := sized_string h ht hj
  have h2 : reachBytes = 140737488351232 := rfl
  omega
end Go.Proofs.YtgonklbjbgekoaaDoor
