import Derived.Test.YtbaemhkfmddakaaGreatSySs
set_option linter.unusedVariables false
set_option linter.unusedSectionVars false
set_option linter.unusedSimpArgs false
namespace Go.Proofs.YtbaemhkfmddakaaGreat.Sy
open Go
def insB (x : ByteArray) : List ByteArray → List ByteArray
  | [] => [x]
  | y :: l => if sLt y x then y :: insB x l else x :: y :: l
def sortI : List ByteArray → List ByteArray
  | [] => []
  | x :: l => insB x (sortI l)
theorem insB_perm (x : ByteArray) : ∀ l, (insB x l).Perm (x :: l)
  | [] => .refl _
  | y :: l => by
    unfold insB
    split
    · exact ((insB_perm x l).cons y).trans (.swap x y l)
    · exact .refl _
theorem sortI_perm : ∀ l, (sortI l).Perm l
  | [] => .refl _
  | x :: l => (insB_perm x _).trans ((sortI_perm l).cons x)
theorem insB_srt (x : ByteArray) : ∀ {l}, Srt slt l → Srt slt (insB x l)
  | [], _ => Srt.one _
  | y :: l, h => by
    have h' := List.pairwise_cons.1 h
    unfold insB
    split
    · rename_i hx
      refine List.pairwise_cons.2 ⟨fun z hz => ?_, insB_srt x h'.2⟩
      rcases List.mem_cons.1 ((insB_perm x l).mem_iff.1 hz) with e | e
      · rw [e]; exact slt_asymm (sLt_iff.1 hx)
      · exact h'.1 z e
    · rename_i hx
      have hx' : ¬ slt y x := fun g => hx (sLt_iff.2 g)
      refine List.pairwise_cons.2 ⟨fun z hz => ?_, h⟩
      rcases List.mem_cons.1 hz with e | e
      · rw [e]; exact hx'
      · intro g
        rcases slt_tri y x with q | q | q
        · exact hx' q
        · rw [← q] at g; exact h'.1 z e g
        · exact h'.1 z e (slt_trans g q)
theorem sortI_srt : ∀ l, Srt slt (sortI l)
  | [] => Srt.nil
  | x :: l => insB_srt x (sortI_srt l)
theorem sortI_eq (l : List ByteArray) : sortI l = sortB l := by
  have h := sortB_spec l
  refine List.Perm.eq_of_pairwise (le := fun x y => ¬ slt y x) (fun a b _ _ p q => ?_) (sortI_srt l) h.1 ((sortI_perm l).trans h.2)
  rcases slt_tri a b with e | e | e
  · exact absurd e q
  · exact e
  · exact absurd e p
end Go.Proofs.YtbaemhkfmddakaaGreat.Sy
