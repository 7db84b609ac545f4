/- Three closed facts of the program's head line. -/
import Derived.Test.YtkbcilfcfbfiaaaDoorRows
import Derived.ProofKit
import Derived.OpenShut
import Derived.LaidMore
import Derived.Stop.Joined
namespace Go.Proofs.YtkbcilfcfbfiaaaDoor
open Go Go.RowKit
def spc : Char := Char.ofNat 32
theorem ws_word (h : List Char) (hn : (h.all fun c => c != spc) = true) (r : List Char) : wordsSigns (h ++ spc :: r) = h :: wordsSigns r := by
  induction h with
  | nil => rfl
  | cons c h ih =>
    rw [List.all_cons, Bool.and_eq_true] at hn
    have hc : c ≠ spc := by simpa using hn.1
    have e := ih hn.2
    rw [List.cons_append, wordsSigns]
    · rw [e]
    · exact hc
def ioHead : List Char := [104, 97, 114, 110, 101, 115, 115].map Char.ofNat
def ioSum : List Char := [100, 57, 102, 101, 56, 53, 101, 55, 48, 97, 55, 100, 102, 48, 100, 52, 50, 53, 56, 102, 51, 53, 51, 48, 53, 55, 51, 55, 97, 102, 99, 50, 98, 101, 98, 49, 49, 102, 99, 101, 98, 99, 50, 98, 101, 53, 97, 54, 102, 100, 56, 53, 53, 51, 101, 101, 51, 56, 99, 52, 53, 52, 102, 97].map Char.ofNat
def ioCut : List Char := [99, 117, 116].map Char.ofNat
def ioRest : List Char := [97, 116, 32, 97, 102, 102, 105, 100, 97, 118, 105, 116, 47, 97, 102, 102, 105, 100, 97, 118, 105, 116, 108, 97, 119, 48, 50, 46, 83, 117, 109, 83, 117, 109, 115, 32, 97, 102, 102, 105, 100, 97, 118, 105, 116, 47, 97, 102, 102, 105, 100, 97, 118, 105, 116, 108, 97, 119, 48, 50, 46, 83, 117, 109, 69, 110, 100, 115, 32, 97, 102, 102, 105, 100, 97, 118, 105, 116, 47, 97, 102, 102, 105, 100, 97, 118, 105, 116, 108, 97, 119, 48, 50, 46, 83, 117, 109, 80, 105, 101, 99, 101, 115, 32, 97, 102, 102, 105, 100, 97, 118, 105, 116, 47, 97, 102, 102, 105, 100, 97, 118, 105, 116, 108, 97, 119, 48, 50, 46, 83, 117, 109, 65, 112, 97, 114, 116, 32, 97, 102, 102, 105, 100, 97, 118, 105, 116, 47, 97, 102, 102, 105, 100, 97, 118, 105, 116, 108, 97, 119, 48, 50, 46, 83, 117, 109, 78, 111, 110, 101, 32, 97, 102, 102, 105, 100, 97, 118, 105, 116, 47, 97, 102, 102, 105, 100, 97, 118, 105, 116, 108, 97, 119, 48, 51, 46, 77, 97, 99, 84, 97, 103, 115, 32, 97, 102, 102, 105, 100, 97, 118, 105, 116, 47, 97, 102, 102, 105, 100, 97, 118, 105, 116, 108, 97, 119, 48, 51, 46, 77, 97, 99, 74, 111, 105, 110, 115, 32, 97, 102, 102, 105, 100, 97, 118, 105, 116, 47, 97, 102, 102, 105, 100, 97, 118, 105, 116, 108, 97, 119, 48, 51, 46, 77, 97, 99, 76, 111, 110, 103, 32, 97, 102, 102, 105, 100, 97, 118, 105, 116, 47, 97, 102, 102, 105, 100, 97, 118, 105, 116, 108, 97, 119, 48, 51, 46, 77, 97, 99, 76, 97, 98, 101, 108, 115, 32, 97, 102, 102, 105, 100, 97, 118, 105, 116, 47, 97, 102, 102, 105, 100, 97, 118, 105, 116, 108, 97, 119, 48, 51, 46, 77, 97, 99, 66, 121, 116, 101, 115, 32, 97, 102, 102, 105, 100, 97, 118, 105, 116, 47, 97, 102, 102, 105, 100, 97, 118, 105, 116, 108, 97, 119, 48, 53, 46, 86, 101, 105, 108, 86, 101, 105, 108, 115, 32, 97, 102, 102, 105, 100, 97, 118, 105, 116, 47, 97, 102, 102, 105, 100, 97, 118, 105, 116, 108, 97, 119, 48, 53, 46, 86, 101, 105, 108, 82, 111, 119, 115, 32, 97, 102, 102, 105, 100, 97, 118, 105, 116, 47, 97, 102, 102, 105, 100, 97, 118, 105, 116, 108, 97, 119, 48, 53, 46, 86, 101, 105, 108, 84, 119, 105, 99, 101, 32, 97, 102, 102, 105, 100, 97, 118, 105, 116, 47, 97, 102, 102, 105, 100, 97, 118, 105, 116, 108, 97, 119, 48, 53, 46, 86, 101, 105, 108, 83, 104, 97, 112, 101, 32, 97, 102, 102, 105, 100, 97, 118, 105, 116, 47, 97, 102, 102, 105, 100, 97, 118, 105, 116, 108, 97, 119, 48, 53, 46, 86, 101, 105, 108, 78, 111, 116, 104, 105, 110, 103, 32, 97, 102, 102, 105, 100, 97, 118, 105, 116, 47, 97, 102, 102, 105, 100, 97, 118, 105, 116, 108, 97, 119, 48, 52, 46, 82, 105, 110, 103, 80, 108, 97, 121, 115, 32, 97, 102, 102, 105, 100, 97, 118, 105, 116, 47, 97, 102, 102, 105, 100, 97, 118, 105, 116, 108, 97, 119, 48, 52, 46, 82, 105, 110, 103, 66, 111, 111, 107, 32, 97, 102, 102, 105, 100, 97, 118, 105, 116, 47, 97, 102, 102, 105, 100, 97, 118, 105, 116, 108, 97, 119, 48, 52, 46, 82, 105, 110, 103, 84, 117, 114, 110, 101, 100, 32, 97, 102, 102, 105, 100, 97, 118, 105, 116, 47, 97, 102, 102, 105, 100, 97, 118, 105, 116, 108, 97, 119, 48, 52, 46, 82, 105, 110, 103, 83, 97, 109, 101, 32, 97, 102, 102, 105, 100, 97, 118, 105, 116, 47, 97, 102, 102, 105, 100, 97, 118, 105, 116, 108, 97, 119, 48, 52, 46, 82, 105, 110, 103, 78, 111, 110, 101].map Char.ofNat
theorem io_of : Tryd.prog.initOrder = String.ofList (ioHead ++ spc :: (ioSum ++ spc :: (ioCut ++ spc :: ioRest))) := by kernel_rfl
theorem behind_of {a b : List Char} (R : List (List Char)) (h1 : isSumSigns b = true) (h2 : (a == "harness".toList) = true) : behindMainWord (a :: b :: R) = R := by
  unfold behindMainWord
  dsimp only
  rw [h1, h2]; rfl
theorem io_words : ∃ R, behindMainWord (wordsSigns Tryd.prog.initOrder.toList) = ioCut :: R := by
  refine ⟨wordsSigns ioRest, ?_⟩
  rw [io_of, String.toList_ofList, ws_word _ (by kernel_rfl), ws_word _ (by kernel_rfl), ws_word _ (by kernel_rfl)]
  generalize wordsSigns ioRest = R
  have h1 : isSumSigns ioSum = true := by kernel_rfl
  have h2 : (ioHead == "harness".toList) = true := by kernel_rfl
  exact behind_of _ h1 h2
theorem mainIs_of {P : Program} {a b : List Char} {R : List (List Char)} (h : wordsSigns P.initOrder.toList = a :: b :: R) (h1 : isSumSigns b = true) (h2 : (a == "harness".toList) = true) : P.mainIs = some (true, b) := by
  unfold Program.mainIs
  rw [h]
  dsimp only
  rw [h1, h2]; rfl
theorem io_full : ∃ R, wordsSigns Tryd.prog.initOrder.toList = ioHead :: ioSum :: R := by
  refine ⟨ioCut :: wordsSigns ioRest, ?_⟩
  rw [io_of, String.toList_ofList, ws_word _ (by kernel_rfl), ws_word _ (by kernel_rfl), ws_word _ (by kernel_rfl)]
theorem ioSum_str : ioSum = ("d9fe85e70a7df0d4258f35305737afc2beb11fcebc2be5a6fd8553ee38c454fa" : String).toList := by kernel_rfl
theorem main_ : Tryd.prog.mainIs = some (true, ("d9fe85e70a7df0d4258f35305737afc2beb11fcebc2be5a6fd8553ee38c454fa" : String).toList) := by
  obtain ⟨R, h⟩ := io_full
  rw [← ioSum_str]
  exact mainIs_of h (by kernel_rfl) (by kernel_rfl)
theorem w_gc : (ioCut == "gc".toList) = false := by kernel_rfl
theorem w_spec : (ioCut == "spec".toList) = false := by kernel_rfl
theorem w_carried : (ioCut == "carried".toList) = false := by kernel_rfl
theorem w_cut : (ioCut == "cut".toList) = true := by kernel_rfl
theorem w_cut2 : (some ioCut == some "cut".toList) = true := by kernel_rfl
theorem w_finals : (ioCut == "finals".toList) = false := by kernel_rfl
theorem w_lifts : (liftWords.all fun o => !(ioCut == o.toList)) = true := by kernel_rfl
theorem strip_none (R : List (List Char)) : ∀ (os : List String), (os.all fun o => !(ioCut == o.toList)) = true → stripLifts os (ioCut :: R) = ([], ioCut :: R)
  | [], _ => rfl
  | o :: os, h => by
    rw [List.all_cons, Bool.and_eq_true] at h
    have h1 : (ioCut == o.toList) = false := by simpa using h.1
    unfold stripLifts
    rw [h1]
    exact strip_none R os h.2
theorem fits1 : Tryd.prog.laysLater = false := by kernel_rfl
theorem fits2 : Tryd.prog.bearsReflect = false := by kernel_rfl
theorem fits3 : Tryd.prog.doorFits [] = true := by kernel_rfl
theorem mayEnter_of {P : Program} {R : List (List Char)} (h : behindMainWord (wordsSigns P.initOrder.toList) = ioCut :: R) (f1 : P.laysLater = false) (f2 : P.bearsReflect = false) (f3 : P.doorFits [] = true) : P.mayEnter = true := by
  unfold Program.mayEnter
  rw [h]
  dsimp only
  rw [strip_none R _ w_lifts, f1, f2, f3]
  simp only [w_gc, w_spec, w_carried, List.head?_cons, w_cut2, Bool.or_false, Bool.false_or, Bool.false_and, Bool.true_and, Bool.and_true, Bool.not_false, Bool.or_true]
  rfl
theorem headLifts_of {P : Program} {R : List (List Char)} (h : behindMainWord (wordsSigns P.initOrder.toList) = ioCut :: R) : P.headLifts = [] := by
  unfold Program.headLifts
  rw [h, strip_none R _ w_lifts]
  simp
theorem lifts_of {P : Program} {R : List (List Char)} (h : behindMainWord (wordsSigns P.initOrder.toList) = ioCut :: R) : P.liftsFinal = false := by
  have e : (some ioCut == some "carried".toList) = false := by kernel_rfl
  unfold Program.liftsFinal
  rw [h, headLifts_of h]
  dsimp only
  rw [List.head?_cons, e]
  rfl
theorem make_of {P : Program} {R : List (List Char)} (h : behindMainWord (wordsSigns P.initOrder.toList) = ioCut :: R) : P.make = some .cut := by
  unfold Program.make
  rw [h]
  dsimp only
  rw [w_gc, w_spec, w_cut]
  rfl
theorem mayEnter_ : Tryd.prog.mayEnter = true := by
  obtain ⟨R, h⟩ := io_words
  exact mayEnter_of h fits1 fits2 fits3
theorem lifts_ : Tryd.prog.liftsFinal = false := by
  obtain ⟨R, h⟩ := io_words
  exact lifts_of h
theorem make_ : Tryd.prog.make = some .cut := by
  obtain ⟨R, h⟩ := io_words
  exact make_of h
end Go.Proofs.YtkbcilfcfbfiaaaDoor
