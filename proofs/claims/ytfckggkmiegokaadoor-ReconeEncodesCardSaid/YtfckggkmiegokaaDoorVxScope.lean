/-
  VX, SCOPES: a scope that no goto leaves, and a label.
-/
import Derived.Test.YtfckggkmiegokaaDoorVxLaw
import Derived.Scope
set_option linter.unusedVariables false
set_option linter.unusedSimpArgs false
namespace Go.Vx
open Go
attribute [local semireducible] Vc
section
variable {P : Program} {fn : Func} {n : Nat} {B : Base} {Φ : Value → GH → OH → Prop} {k : List It} {σ : Env} {G : GH} {μ : OH}
theorem kont_goto {V : Value → World → Prop} {l : Nat} : ∀ (k : List It) (a : Act) (w : World), ¬ Kont P n (bodyPost P fn (Back V)) k (.goto l) a w
  | [], a, w => by simp [Kont, bodyPost]
  | .code c :: k, a, w => by simp only [Kont]; exact kont_goto k a w
  | .ops all l :: k, a, w => by simp only [Kont]; exact kont_goto k a w
  | .blk id :: k, a, w => by simp only [Kont]; exact kont_goto k a w
  | .again S I :: k, a, w => by simp only [Kont]; exact kont_goto k a w
theorem v_scope {c : Code} (h : Vc P fn n B Φ (.code c :: k) σ G μ) : Vc P fn n B Φ (.code (.scope c) :: k) σ G μ := by
  intro w hw a ha
  refine wp_scope_straight (wp_mono (h w hw a ha) fun e a' w' hq => ?_)
  cases e with
  | goto l => exact absurd hq (kont_goto k a' w')
  | normal => exact hq
  | exit id => exact hq
  | ret => exact hq
  | panic ch => exact hq
  | outgrown => exact hq
theorem v_label {l : Nat} (h : Vc P fn n B Φ k σ G μ) : Vc P fn n B Φ (.code (.label l) :: k) σ G μ := fun w hw a ha => wp_label (h w hw a ha)
end
end Go.Vx
