/- All elements as told by a function that may have no answer: what impl.areAll computes. This session's own text; conditions: none. -/
import Derived.Test.YtleklbmodelehaaWWords
set_option linter.unusedVariables false
namespace Go.Proofs.Ytleklbmodelehaa.Open
open Go.RowKit Go.Proofs.YtleklbmodelehaaW.PrintWords

/-- Every element has an answer: are all of them true? -/
def allO {α : Type} (f : α → Option Bool) : List α → Option Bool
  | [] => some true
  | x :: l => (f x).bind fun b => (allO f l).bind fun c => some (b && c)

/-- The answer, where there is one. -/
def allB (o : Option Bool) : Bool := o.getD false

theorem allO_mono {α : Type} {f g : α → Option Bool} (h : ∀ x, LeO (f x) (g x)) : ∀ l, LeO (allO f l) (allO g l)
  | [] => LeO.refl _
  | x :: l => LeO.bind (h x) fun b => LeO.bind (allO_mono h l) fun c => LeO.refl _

theorem allO_some {α : Type} {f : α → Option Bool} : ∀ {l : List α} {r : Bool}, allO f l = some r → (∀ x ∈ l, ∃ b, f x = some b) ∧ r = l.all (fun x => allB (f x))
  | [], r, h => by
    obtain rfl := Option.some.inj h
    exact ⟨fun x hx => by simp at hx, rfl⟩
  | x :: l, r, h => by
    obtain ⟨b, hb, h1⟩ := Option.bind_eq_some_iff.mp (show (f x).bind (fun b => (allO f l).bind fun c => some (b && c)) = some r from h)
    obtain ⟨c, hc, h2⟩ := Option.bind_eq_some_iff.mp h1
    obtain ⟨hs, rfl⟩ := allO_some hc
    obtain rfl := Option.some.inj h2
    refine ⟨fun y hy => ?_, ?_⟩
    · rcases List.mem_cons.1 hy with rfl | hy
      · exact ⟨b, hb⟩
      · exact hs y hy
    · rw [List.all_cons, hb]; rfl

theorem allO_v {α : Type} {f : α → Option Bool} {p : α → Bool} : ∀ {l : List α}, (∀ x ∈ l, f x = some (p x)) → allO f l = some (l.all p)
  | [], _ => rfl
  | x :: l, h => by
    show (f x).bind (fun b => (allO f l).bind fun c => some (b && c)) = some ((x :: l).all p)
    rw [h x (by simp), Option.bind_some, allO_v (fun y hy => h y (by simp [hy])), Option.bind_some, List.all_cons]
end Go.Proofs.Ytleklbmodelehaa.Open
