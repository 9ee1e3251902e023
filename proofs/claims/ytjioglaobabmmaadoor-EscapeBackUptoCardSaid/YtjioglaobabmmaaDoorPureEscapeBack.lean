/- EscapeBack: the plain law, of a million bytes. -/
import Derived.Test.YtjioglaobabmmaaDoorUEscapeBack
import Derived.Test.YtjioglaobabmmaaDoorQ16
namespace Go.Proofs.YtjioglaobabmmaaDoor.Pure
open Go.RowKit Go.Proofs.YtjioglaobabmmaaDoor.P Go.Proofs.YtjioglaobabmmaaDoorW.PrintWords
set_option linter.unusedVariables false
set_option linter.unusedSimpArgs false
theorem EscapeBack : colophonlaw08_EscapeBack.PureU := by
  intro l0 l1 l2 _ hl0 _ _ hl1 hb1 _ hl2 hb2 _ hs1 hs2
  have hB1 : Bytes l1 := fun x hx => byte_range (hb1 x hx)
  have hB2 : Bytes l2 := fun x hx => byte_range (hb2 x hx)
  refine Ev.rounds ?_
  obtain ⟨cs, h1, h2, ht⟩ := text_ev l0 (by omega)
  have hcl := chs_len cs
  have hql := qts_len cs h1
  unfold colophonlaw08_EscapeBack.f
  refine Ev.bind ht (Ev.bind (quote_prog cs h1 (by omega)) ?_)
  simp only [copy_some l1 hl1, Option.bind_some]
  simp only [strOfNums_size, quote_len cs h1, bytesOf_str _ (quote_bytes cs h1), Option.bind_some, if_pos (show l1.length + ((qts cs).length + 2) < 140737488355328 by omega)]
  have hL : (l1 ++ 34 :: (qts cs ++ [34])).length = l1.length + ((qts cs).length + 2) := by simp
  simp only [if_pos (show (l1 ++ 34 :: (qts cs ++ [34])).length + l2.length < 140737488355328 by omega)]
  have e : l1 ++ 34 :: (qts cs ++ [34]) ++ l2 = l1 ++ 34 :: (qts cs ++ 34 :: l2) := by simp
  have hB : Bytes (l1 ++ 34 :: (qts cs ++ [34]) ++ l2) := bytes_append (bytes_append hB1 (quote_bytes cs h1)) hB2
  have hu := (unquote_both _ hB (by rw [List.length_append, hL]; omega) (l1.length : Int)).1
  rw [e, told_at cs h1 l1 l2] at hu
  rw [e]
  refine Ev.bind hu ?_
  simp only [if_true]
  simp only [if_pos (show ((l1.length + (qts cs).length + 2 : Nat) : Int) = wrap64 ((l1.length : Int) + (((qts cs).length + 2 : Nat) : Int)) by rw [wrap_nat (by omega) (by omega)]; omega)]
  exact awake_ev
end Go.Proofs.YtjioglaobabmmaaDoor.Pure
