/- What is next, by the program's rules and by the reference: the same. -/
import Derived.Test.YtajpldeffhagaaaSame
import Derived.Test.YtajpldeffhagaaaNext
namespace Go.Proofs.Ytajpldeffhagaaa
open Go.RowKit E
set_option linter.unusedVariables false
theorem next_same (t : Task) (k : Look) (h0 : 0 ≤ t.state) : nextF t k = (if errT t = 0 then nextG t k else ⟨0, 0⟩) := by
  by_cases h : t.ok = true
  · have he : errT t = 0 := errF_yes ((ok_good t).1 h)
    have h7 := errT_le he
    rw [if_pos he]
    unfold nextF nextG ruleF startF withF live4 live5 live6 live7 firstF liveG
    rw [if_pos h]
    have hs : t.state = 0 ∨ t.state = 1 ∨ t.state = 2 ∨ t.state = 3 ∨ t.state = 4 ∨ t.state = 5 ∨ t.state = 6 ∨ t.state = 7 := by omega
    obtain ⟨now, expired, fenced, sick, has, ⟨pid, nonce, token, alive, term, kill, code⟩, other⟩ := k
    rcases hs with hs | hs | hs | hs | hs | hs | hs | hs <;> simp only [hs]
    · cases expired <;> cases other <;> simp
    · cases has <;> cases alive <;> cases fenced <;> simp
    · cases has <;> cases alive <;> cases fenced <;> cases sick <;> simp
    · cases expired <;> cases other <;> simp
      by_cases c : now < t.due
      · simp [c, show ¬ t.due ≤ now by omega]
      · simp [c, show t.due ≤ now by omega]
    · cases has <;> cases alive <;> cases fenced <;> cases term <;> simp
    · cases has <;> cases alive <;> cases kill <;> simp
    · simp
    · simp
  · have he : errT t = 2 := errF_no fun hg => h ((ok_good t).2 hg)
    unfold nextF
    rw [if_neg h, if_neg (by rw [he]; decide)]
end Go.Proofs.Ytajpldeffhagaaa
