/- Chapter 27: what the specifications say is one. No program. -/
import Derived.Test.YtcfplkbbgjiocaaBookDispute
import Derived.Test.YtcfplkbbgjiocaaRefStatement
namespace Go.Proofs.Ytcfplkbbgjiocaa
open Go Go.RowKit Go.Shelf
theorem PostSpec.unique {teams closed : Int} {n : Nat} {g : Nat → Pst} {p : Pst} {t c t' c' : Int} {k k' : Nat} {f f' : Nat → Pst} {i e i' e' : Int} (h : PostSpec teams closed n g p t c k f i e) (h' : PostSpec teams closed n g p t' c' k' f' i' e') :
    e = e' ∧ i = i' ∧ k = k' ∧ t = t' ∧ c = c' ∧ ∀ j, j < k → f j = f' j := by
  rcases h with ⟨a, rfl, rfl, rfl, rfl, rfl, hf⟩ | ⟨a, rfl, rfl, rfl, rfl, rfl⟩
  · rcases h' with ⟨_, rfl, rfl, rfl, rfl, rfl, hf'⟩ | ⟨b, _⟩
    · exact ⟨rfl, rfl, rfl, rfl, rfl, fun j hj => by rw [hf j hj, hf' j hj]⟩
    · exact absurd a b
  · rcases h' with ⟨b, _⟩ | ⟨_, rfl, rfl, rfl, rfl, rfl⟩
    · exact absurd b a
    · exact ⟨rfl, rfl, rfl, rfl, rfl, fun j hj => by omega⟩
theorem CloseSpec.unique {teams closed month : Int} {n : Nat} {g : Nat → Pst} {t c t' c' : Int} {k k' : Nat} {f f' : Nat → Pst} {e e' : Int} (h : CloseSpec teams closed n g month t c k f e) (h' : CloseSpec teams closed n g month t' c' k' f' e') :
    e = e' ∧ k = k' ∧ t = t' ∧ c = c' ∧ ∀ j, j < k → f j = f' j := by
  rcases h with ⟨a, rfl, rfl, rfl, rfl, hf⟩ | ⟨a, rfl, rfl, rfl, rfl⟩
  · rcases h' with ⟨_, rfl, rfl, rfl, rfl, hf'⟩ | ⟨b, _⟩
    · exact ⟨rfl, rfl, rfl, rfl, fun j hj => by rw [hf j hj, hf' j hj]⟩
    · exact absurd a b
  · rcases h' with ⟨b, _⟩ | ⟨_, rfl, rfl, rfl, rfl⟩
    · exact absurd b a
    · exact ⟨rfl, rfl, rfl, rfl, fun j hj => by omega⟩
theorem DispSpec.unique {teams closed i day amount : Int} {n : Nat} {g : Nat → Pst} {t c t' c' : Int} {k k' : Nat} {f f' : Nat → Pst} {e e' : Int} (h : DispSpec teams closed n g i day amount t c k f e) (h' : DispSpec teams closed n g i day amount t' c' k' f' e') :
    e = e' ∧ k = k' ∧ t = t' ∧ c = c' ∧ ∀ j, j < k → f j = f' j := by
  rcases h with ⟨a, rfl, rfl, rfl, h1, h2⟩ | ⟨a, rfl, rfl, rfl, rfl⟩
  · rcases h' with ⟨_, rfl, rfl, rfl, h1', h2'⟩ | ⟨b, _⟩
    · by_cases hp : 0 < amount
      · obtain ⟨rfl, hf⟩ := h1 hp
        obtain ⟨rfl, hf'⟩ := h1' hp
        exact ⟨rfl, rfl, rfl, rfl, fun j hj => by rw [hf j hj, hf' j hj]⟩
      · obtain ⟨rfl, hf⟩ := h2 hp
        obtain ⟨rfl, hf'⟩ := h2' hp
        exact ⟨rfl, rfl, rfl, rfl, fun j hj => by rw [hf j hj, hf' j hj]⟩
    · exact absurd a b
  · rcases h' with ⟨b, _⟩ | ⟨_, rfl, rfl, rfl, rfl⟩
    · exact absurd b a
    · exact ⟨rfl, rfl, rfl, rfl, fun j hj => by omega⟩
theorem BalSpec.unique {teams closed team month : Int} {n : Nat} {g : Nat → Pst} {x e x' e' : Int} (h : BalSpec teams closed n g team month x e) (h' : BalSpec teams closed n g team month x' e') : e = e' ∧ x = x' := by
  rcases h with ⟨a, rfl, rfl⟩ | ⟨a, rfl, rfl⟩
  · rcases h' with ⟨_, rfl, rfl⟩ | ⟨b, _⟩
    · exact ⟨rfl, rfl⟩
    · exact absurd a b
  · rcases h' with ⟨b, _⟩ | ⟨_, rfl, rfl⟩
    · exact absurd b a
    · exact ⟨rfl, rfl⟩
theorem StatSpec.unique {teams closed month : Int} {n : Nat} {g : Nat → Pst} {k k' : Nat} {f f' : Nat → Int} {e e' : Int} (h : StatSpec teams closed n g month k f e) (h' : StatSpec teams closed n g month k' f' e') : e = e' ∧ k = k' ∧ ∀ j, j < k → f j = f' j := by
  rcases h with ⟨a, rfl, hk, hf⟩ | ⟨a, rfl, rfl⟩
  · rcases h' with ⟨_, rfl, hk', hf'⟩ | ⟨b, _⟩
    · obtain rfl : k = k' := by omega
      exact ⟨rfl, rfl, fun j hj => by rw [hf j hj, hf' j hj]⟩
    · exact absurd a b
  · rcases h' with ⟨b, _⟩ | ⟨_, rfl, rfl⟩
    · exact absurd b a
    · exact ⟨rfl, rfl, fun j hj => by omega⟩
end Go.Proofs.Ytcfplkbbgjiocaa
