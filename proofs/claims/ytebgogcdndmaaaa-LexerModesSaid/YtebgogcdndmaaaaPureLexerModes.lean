/- The mode that the lexer tells behind the start tag of any name is the mode that the document's reference tells; no condition. -/
import Derived.Test.YtebgogcdndmaaaaPLexerModesx1
namespace Go.Proofs.Ytebgogcdndmaaaa.Pure
open Go.RowKit Go.Proofs.Ytebgogcdndmaaaa.PLexerModes Go.Proofs.YtebgogcdndmaaaaW.PrintWords Go.Proofs.YtebgogcdndmaaaaW.PrintLast

theorem of_same (k : Nat) (a : ByteArray) : beadleref05_Of.f (k + 2) a = lexer_Of.f (k + 2) a := by
  simp only [beadleref05_Of.f, lexer_Of.f, beadleref05_Of.j0, beadleref05_Of.j1, lexer_Of.j0, lexer_Of.j1]

theorem of_some (k : Nat) (a : ByteArray) : ∃ r, lexer_Of.f (k + 2) a = some r := by
  simp only [lexer_Of.f, lexer_Of.j0, lexer_Of.j1]
  repeat' split
  all_goals exact ⟨_, rfl⟩

theorem LexerModes : beadlelaw05_LexerModes.Pure := by
  intro a0 _
  refine ⟨0 + 2, ?_⟩
  obtain ⟨r, hr⟩ := of_some 0 a0
  have hs := of_same 0 a0
  have ht : lexer_Of.f (0 + 2) (⟨#[116, 105, 116, 108, 101]⟩ : ByteArray) = some 1 := by
    simp only [lexer_Of.f, lexer_Of.j0]
    rw [if_pos (by rw [ByteArray.toList_eq]), if_pos (by rw [ByteArray.toList_eq]; rfl)]
  simp only [beadlelaw05_LexerModes.f]
  rw [ht, hs, hr]
  simp

end Go.Proofs.Ytebgogcdndmaaaa.Pure
