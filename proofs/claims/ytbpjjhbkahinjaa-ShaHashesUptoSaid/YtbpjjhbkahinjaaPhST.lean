/- ShaPieces. -/
import Derived.Test.YtbpjjhbkahinjaaPhSQ
import Derived.Test.YtbpjjhbkahinjaaPhVL
import Derived.Test.YtbpjjhbkahinjaaProg
import Derived.KernelRfl
import Derived.Test.YtbpjjhbkahinjaaPhVM
set_option linter.unusedSimpArgs false
set_option linter.unusedVariables false
-- @extra s_nilPf s_nilPt s_nilNf s_nilNt s_nilck s_fptr0 s_eqDt s_eqDf
namespace Go.Proofs.Ytbpjjhbkahinjaa.V
open Go.RowKit Go.ChangeShapes Go.WideShapes
theorem parts2 {G : GH} {w a b : Value} {x y : List UInt8} (h1 : By G a x) (h2 : By G b y) (h : Sl 1 G w [a, b]) : Parts G w [a, b] [x, y] :=
  ⟨h, rfl, fun i hi => by
    match i, hi with
    | 0, _ => exact ⟨a, rfl, h1⟩
    | 1, _ => exact ⟨b, rfl, h2⟩⟩
theorem By.back {G H : GH} {u us : Value} {bs x : List UInt8} (hu : By G u bs) (hl : G.le H) (h : By H us x) (hb : blkS us = blkS u) (hx : x.length ≤ bs.length) : By G us x := by
  by_cases h0 : x = []
  · subst h0
    obtain ⟨a, cap, e1, e2, e3, e4, e5⟩ := Sl.slice h
    have hz : lenS us = 0 := by simpa using e4.symm
    refine ⟨?_, h.ok⟩
    rw [e1, hz]
    cases a with
    | none => rfl
    | some a =>
      obtain ⟨b, q, sp⟩ := a
      cases sp with
      | none => simp [rd]
      | some _ => rfl
  · refine h.keep fun c hc o ho => ?_
    obtain ⟨a, cap, e1, e2, e3, e4, e5⟩ := Sl.slice hu
    have hn : lenS u ≠ 0 := by
      have := By.len hu
      have : x.length ≠ 0 := fun e => h0 (List.eq_nil_of_length_eq_zero e)
      omega
    obtain ⟨b, q, e6⟩ := e5 hn
    have hc2 : b = c := by
      have h1 : blkS u = some b := by rw [e1, e6]; rfl
      rw [hb, h1] at hc; exact Option.some.inj hc
    subst hc2
    have hr := hu.rd
    rw [e1, e6] at hr
    rcases rd_some hr with ⟨h1, _⟩ | ⟨_, cs, e, fr, h1, _⟩
    · omega
    · have := hl _ _ h1
      rw [ho] at this; cases this; exact h1
end Go.Proofs.Ytbpjjhbkahinjaa.V
