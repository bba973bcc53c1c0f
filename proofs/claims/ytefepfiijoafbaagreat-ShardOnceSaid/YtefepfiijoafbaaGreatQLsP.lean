/- The chapter's example, plainly. -/
import Derived.Test.YtefepfiijoafbaaGreatQShP
import Derived.Test.YtefepfiijoafbaaGreatQSMay
import Derived.Test.YtefepfiijoafbaaGreatQSFinC
namespace Go.Proofs.YtefepfiijoafbaaGreat
set_option linter.unusedVariables false
set_option linter.unusedSimpArgs false

def bName : ByteArray := ⟨#[110, 97, 109, 101]⟩
def bA : ByteArray := ⟨#[97]⟩
theorem ok_name : predOk bName = true := predOk_true ⟨by decide, by decide, by decide, by decide, fun j h => by
  have h : j < 4 := h
  obtain rfl | rfl | rfl | rfl : j = 0 ∨ j = 1 ∨ j = 2 ∨ j = 3 := by omega
  all_goals rfl⟩
def cName : Sch := ⟨bName, 3, false, false, false, false, false, false⟩
def cOther : Sch := ⟨bName, 2, false, false, false, false, false, false⟩
def xW : Wr := ⟨false, 1, bName, ⟨3, false, 0, bA, 0⟩⟩
theorem may_name : schMay cName = 0 := by simp [schMay, cName, ok_name, schBad]
theorem may_other : schMay cOther = 0 := by simp [schMay, cOther, ok_name, schBad]
theorem may_w : trMay xW = 0 := by simp [trMay, xW, ok_name, valMay]; decide
theorem wf_w : xW.wf := ⟨by decide, by decide, by decide⟩
theorem fits_w : tFits cName xW = 0 := by
  rw [tFits_fitE]
  unfold fitE
  simp [may_name, may_w]
  simp [xW, cName]
def opH : Op := ⟨1, 0, 0, [], cName, ⟨#[]⟩, 0, 0, 0⟩
def opH2 : Op := ⟨1, 0, 0, [], cOther, ⟨#[]⟩, 0, 0, 0⟩
def opS : Op := ⟨2, 3, 0, [xW], Sch.zero, ⟨#[]⟩, 0, 0, 0⟩
def opF : Op := ⟨3, 3, 7, [], Sch.zero, ⟨#[]⟩, 0, 0, 0⟩
def opF2 : Op := ⟨3, 6, 9, [], Sch.zero, ⟨#[]⟩, 0, 0, 0⟩
theorem okH : opH.ok := ⟨rfl, rfl, rfl, rfl, .inl ⟨rfl, may_name, rfl, rfl, rfl⟩⟩
theorem okH2 : opH2.ok := ⟨rfl, rfl, rfl, rfl, .inl ⟨rfl, may_other, rfl, rfl, rfl⟩⟩
theorem okS : opS.ok := ⟨rfl, rfl, rfl, rfl, .inr (.inl ⟨rfl, by decide, by simp [opS], by decide, fun y hy => by simp [opS] at hy; subst hy; exact may_w, rfl, rfl⟩)⟩
theorem okF : opF.ok := ⟨rfl, rfl, rfl, rfl, .inr (.inr ⟨rfl, by decide, .inr (by decide), rfl, rfl⟩)⟩
theorem okF2 : opF2.ok := ⟨rfl, rfl, rfl, rfl, .inr (.inr ⟨rfl, by decide, .inr (by decide), rfl, rfl⟩)⟩

noncomputable def s1 : SS := { SS.empty with lists := updB SS.empty.lists bName (some { s := cName }) }
noncomputable def s2 : SS := { s1 with staged := updI s1.staged 3 (some [xW]) }
theorem preds_w : predsOf [xW] = [bName] := by
  have h : normL [bName] = [bName.data.toList] := by simp [normL, once]
  show normS [bName] = _
  rw [normS, h]
  simp [mkS, bName]
theorem own_w : ownW [xW] bName = [xW] := by simp [ownW, xW]
def lEnd : PL := { s := cName, marked := 0, times := [7], commits := [⟨7, [xW]⟩] }
theorem add_w : addErr { s := cName } ⟨7, [xW]⟩ = 0 := by
  have hf : fitE cName xW = 0 := by rw [← tFits_fitE]; exact fits_w
  unfold addErr
  simp [hf, firstNZ]
theorem addIn_w : addIn { s := cName } ⟨7, [xW]⟩ = lEnd := by simp [addIn, insBy, lEnd]
theorem step1 : sApply SS.empty opH = (s1, 0) := by
  unfold sApply
  rw [if_neg (fun h => h okH), if_pos (show opH.kind = 1 from rfl)]
  rfl
theorem s1_name : s1.lists bName = some { s := cName } := by
  show updB SS.empty.lists bName (some { s := cName }) bName = _
  exact updB_same _ _ _
theorem step2 : sApply s1 opH2 = (s1, 202) := by
  unfold sApply
  rw [if_neg (fun h => h okH2), if_pos (show opH2.kind = 1 from rfl)]
  unfold sHold
  rw [show opH2.sch.pred = bName from rfl, s1_name]
  simp only
  rw [if_neg (by show ¬ cName = cOther; simp [cName, cOther])]
theorem step3 : sApply s1 opS = (s2, 0) := by
  unfold sApply
  rw [if_neg (fun h => h okS), if_neg (by decide), if_pos (show opS.kind = 2 from rfl)]
  unfold sStage
  rw [show s1.finals opS.start = none from rfl, show s1.staged opS.start = none from rfl]
  have : firstNZ (opS.ws.map (stOne s1)) = 0 := by
    show firstNZ [stOne s1 xW] = 0
    have : stOne s1 xW = 0 := by
      unfold stOne
      rw [show xW.pred = bName from rfl, s1_name]
      exact fits_w
    simp [firstNZ, this]
  simp only [this, if_true]
  rfl
theorem s2_name : s2.lists bName = some { s := cName } := s1_name
theorem finErr2 : finErr predsOf s2 [xW] 7 = 0 := by
  unfold finErr
  rw [if_neg (by rintro ⟨q, hq, hn⟩; rw [preds_w] at hq; simp at hq; subst hq; rw [s2_name] at hn; cases hn)]
  rw [preds_w]
  simp [s2_name, own_w, add_w, firstNZ]
noncomputable def s3 : SS := finIn predsOf s2 3 7 [xW]
theorem s3_name : s3.lists bName = some lEnd := by
  unfold s3 finIn
  simp only
  rw [if_pos (by rw [preds_w]; simp), s2_name, own_w]
  simp [addIn_w]
theorem step4 : sApply s2 opF = (s3, 0) := by
  unfold sApply
  rw [if_neg (fun h => h okF), if_neg (by decide), if_neg (by decide)]
  show sFin predsOf s2 3 7 = _
  unfold sFin
  have h1 : s2.staged 3 = some [xW] := by
    show updI s1.staged 3 (some [xW]) 3 = _
    exact updI_same _ _ _
  rw [show s2.finals 3 = none from rfl, h1]
  simp only [finErr2]
  rfl
theorem step5 : sApply s3 opS = (s3, 210) := by
  unfold sApply
  rw [if_neg (fun h => h okS), if_neg (by decide), if_pos (show opS.kind = 2 from rfl)]
  unfold sStage
  have h1 : s3.finals opS.start = some 7 := by
    show updI s2.finals 3 (some 7) 3 = _
    exact updI_same _ _ _
  rw [h1]
theorem step6 : sApply s3 opF2 = (s3, 211) := by
  unfold sApply
  rw [if_neg (fun h => h okF2), if_neg (by decide), if_neg (by decide)]
  show sFin predsOf s3 6 9 = _
  unfold sFin
  have h1 : s3.finals 6 = none := by
    show updI s2.finals 3 (some 7) 6 = none
    rw [updI_other (by decide)]; rfl
  have h2 : s3.staged 6 = none := by
    show updI s2.staged 3 none 6 = none
    rw [updI_other (by decide)]
    show updI s1.staged 3 (some [xW]) 6 = none
    rw [updI_other (by decide)]; rfl
  rw [h1, h2]
  rfl
theorem ready2 : sReady s2 bName 9 1 = 7 := by unfold sReady; rw [s2_name]; decide
theorem ready3 : sReady s3 bName 9 1 = 0 := by unfold sReady; rw [s3_name]; decide
theorem ready3a : sReady s3 bName 7 1 = 0 := by unfold sReady; rw [s3_name]; decide
theorem ready3b : sReady s3 bName 6 0 = 0 := by unfold sReady; rw [s3_name]; decide
end Go.Proofs.YtefepfiijoafbaaGreat
