/- Plain laws: what was made is read as it was. -/
import Derived.Test.YtfonaceldfjneaaMakePlain
namespace Go.Proofs.Ytfonaceldfjneaa
theorem sealR_cases (k : Int) (l : Bs) : sealR k l = ([], 2) ∨ ∃ x, sealR k l = (x, 0) ∧ sealB k l = some x := by
  unfold sealR
  cases h : sealB k l with
  | none => exact .inl rfl
  | some x => exact .inr ⟨x, rfl, rfl⟩
theorem makeR_cases (k : Int) (rest : Bs) (ws l : List Int) : makeR k rest ws l = ([], 2) ∨ ∃ b x, makeR k rest ws l = (x, 0) ∧ fieldsB [] ws l = some b ∧ sealB k (b ++ rest) = some x := by
  unfold makeR
  cases h : fieldsB [] ws l with
  | none => exact .inl rfl
  | some b =>
    rcases sealR_cases k (b ++ rest) with h1 | ⟨x, h1, h2⟩
    · exact .inl h1
    · exact .inr ⟨b, x, h1, rfl, h2⟩
theorem ofR_seal {k : Int} {l s : Bs} (hk : k ≤ 127) (h : sealB k l = some s) : ofR k s = (l, 0) := by
  rw [ofR, openR_seal hk h, if_pos ⟨rfl, rfl⟩]
theorem ofR_other {k k' : Int} {l s : Bs} (hk : k ≤ 127) (h : sealB k l = some s) (hne : k ≠ k') : ofR k' s = ([], 30) := by
  rw [ofR, openR_seal hk h, if_neg (fun h => hne h.2)]
theorem fieldsR_make {k : Int} {rest b x : Bs} {ws l : List Int} (hk : k ≤ 127) (hf : fieldsB [] ws l = some b) (hs : sealB k (b ++ rest) = some x) : fieldsR k x ws = (l, rest, 0) := by
  obtain ⟨y, hy, ht⟩ := takeF_fields [] ws l b rest hf
  rw [List.nil_append] at hy
  subst hy
  rw [fieldsR, ofR_seal hk hs]
  simp only [if_true]
  rw [ht]
theorem sealB_len {k : Int} {l x : Bs} (h : sealB k l = some x) : 1 ≤ k ∧ l.length ≤ 505 ∧ x.length = l.length + 7 := by
  obtain ⟨a, b, _, c⟩ := sealB_parts h; exact ⟨a, b, c⟩
end Go.Proofs.Ytfonaceldfjneaa
