/- WordPowers: the plain law. -/
import Derived.Test.YtjkajepkeepelaaPXx1
import Derived.Test.YtjkajepkeepelaaLRoots
set_option linter.unusedVariables false
set_option linter.unusedSimpArgs false
namespace Go.Proofs.Ytjkajepkeepelaa.LPowers
open Go.RowKit Go.Proofs.YtjkajepkeepelaaW.PrintWords Go.Proofs.YtjkajepkeepelaaW.PrintLast Go.Proofs.YtjkajepkeepelaaW.PrintMore
open Go.Proofs.Ytjkajepkeepelaa Go.Proofs.Ytjkajepkeepelaa.HMath Go.Proofs.Ytjkajepkeepelaa.HBord Go.Proofs.Ytjkajepkeepelaa.HOver Go.Proofs.Ytjkajepkeepelaa.HComp Go.Proofs.Ytjkajepkeepelaa.HRoots Go.Proofs.Ytjkajepkeepelaa.LRoots

theorem back_loop (s : ByteArray) (hs : s.size ≤ 140737488351232) : ∀ (i : Nat) (l : List Int), i ≤ s.size → l.length = s.size - i → (∀ j : Nat, j < s.size - i → rd l (j : Int) = bt s ((s.size - 1 - j : Nat) : Int)) →
    Ev (fun k => PX.eggboxref01_Turned.l0 k s l ((i : Int) - 1)) (rv s) := by
  intro i
  induction i with
  | zero =>
    intro l hi hl hx
    have e : strOfNums l = rv s := by
      refine ext_gb (by rw [strOf_size, rv_size, hl]; omega) (fun j hj => ?_)
      rw [strOf_size] at hj
      have h := hx j (by omega)
      have hr := bt_range s ((s.size - 1 - j : Nat) : Int)
      rw [gb_str l j hj (by omega) (by omega), h, gb_rv s j (by omega)]
      rfl
    refine Ev.step (f := fun _ => some (strOfNums l)) (fun k => ?_) (by rw [e]; exact Ev.now _)
    simp only [PX.eggboxref01_Turned.l0]
    rw [if_neg (by omega)]
  | succ i ih =>
    intro l hi hl hx
    refine Ev.step (f := fun k => PX.eggboxref01_Turned.l0 k s (l ++ [bt s (i : Int)]) ((i : Int) - 1)) (fun k => ?_) (ih _ (by omega) (by simp; omega) (fun j hj => ?_))
    · have e : ((i + 1 : Nat) : Int) - 1 = (i : Int) := by omega
      simp only [PX.eggboxref01_Turned.l0]
      rw [e, if_pos (by omega), if_pos (by omega), if_pos (by omega), if_pos (by omega), w64 (by omega) (by omega)]
    · by_cases e : j < l.length
      · have := hx j (by omega)
        rw [← this]
        simp [rd, List.getD_eq_getElem?_getD, List.getElem?_append, e]
      · obtain rfl : j = l.length := by omega
        have : rd (l ++ [bt s (i : Int)]) (l.length : Int) = bt s (i : Int) := by simp [rd, List.getD_eq_getElem?_getD]
        rw [this]
        congr 2
        omega

theorem refReverse_ok (k : Int) (s : ByteArray) (hs : s.size ≤ 140737488351232) : Ev (fun n => PX.eggboxref01_Reverse.f n k s) (if HCheck.chk k s = 0 then (rv s, 0) else (⟨#[]⟩, HCheck.chk k s)) := by
  unfold PX.eggboxref01_Reverse.f
  refine Ev.bind (refCheck_ok k s (by omega)) ?_
  by_cases h : HCheck.chk k s = 0
  · simp only [if_pos h]
    refine Ev.bind (f := fun _ t => some (t, (0 : Int))) ?_ (Ev.now _)
    unfold PX.eggboxref01_Turned.f
    rw [w64 (by omega) (by omega)]
    exact back_loop s hs s.size [] (Nat.le_refl _) (by simp) (fun j hj => by omega)
  · simp only [if_neg h]
    exact Ev.now _

theorem rev_all (k : Int) (s : ByteArray) (hs : s.size ≤ 281474976710656) : Ev (fun n => PW.word_Reverse.f n k s) (if HCheck.chk k s = 0 then (rv s, 0) else (⟨#[]⟩, HCheck.chk k s)) := by
  by_cases h : HCheck.chk k s = 0
  · rw [if_pos h]
    exact reverse_ok k s hs h
  · rw [if_neg h]
    unfold PW.word_Reverse.f PW.word_Check.f
    simp only [Option.bind_some, if_neg h]
    exact Ev.now _

theorem rep_reps (l : List UInt8) : ∀ n, Lib.repeatL l n ++ l = l ++ Lib.repeatL l n
  | 0 => by simp [Lib.repeatL]
  | n + 1 => by rw [Lib.repeatL, List.append_assoc, rep_reps l n]
theorem rep_eq (s : ByteArray) : ∀ n, (⟨(Lib.repeatL s.data.toList n).toArray⟩ : ByteArray) = pw s n
  | 0 => rfl
  | n + 1 => by
    rw [pw_succ, ← rep_eq s n]
    refine ba_ext ?_
    rw [app_list]
    simp only [Lib.repeatL]
    exact (rep_reps _ n).symm

theorem refPower_ok (k : Int) (s : ByteArray) (n : Int) (hs : s.size ≤ 140737488351232) (hn : n ≤ 9223372036854775807) : ∃ r, Ev (fun j => HRefPower.f j k s n) r ∧ HPower.f k s n = some r := by
  unfold HRefPower.f HPower.f
  by_cases hc : HCheck.chk k s = 0
  · have key : ∀ r : ByteArray × Int, (if n < 0 then some ((⟨#[]⟩ : ByteArray), (1 : Int)) else if (s.size : Int) = 0 then some (⟨#[]⟩, 0) else if 4096 / (s.size : Int) < n then some (⟨#[]⟩, 6) else (HRefPower.rep s n).bind fun s => some (s, 0)) = some r →
        Ev (fun j => (PW.eggboxref01_Check.f j k s).bind fun e => if e = 0 then (if n < 0 then some ((⟨#[]⟩ : ByteArray), (1 : Int)) else if (s.size : Int) = 0 then some (⟨#[]⟩, 0) else if 4096 / (s.size : Int) < n then some (⟨#[]⟩, 6) else (HRefPower.rep s n).bind fun s => some (s, 0)) else some (⟨#[]⟩, e)) r := fun r h => by
      refine Ev.bind (refCheck_ok k s (by omega)) ?_
      simp only [if_pos hc]
      exact Ev.congr (f := fun _ => some r) (fun _ => h) (Ev.now _)
    by_cases h1 : n < 0
    · exact ⟨_, key _ (by rw [if_pos h1]), by rw [if_pos hc, if_pos h1]⟩
    · by_cases h2 : (s.size : Int) = 0
      · exact ⟨_, key _ (by rw [if_neg h1, if_pos h2]), by rw [if_pos hc, if_neg h1, if_pos h2]⟩
      · by_cases h3 : 4096 / (s.size : Int) < n
        · exact ⟨_, key _ (by rw [if_neg h1, if_neg h2, if_pos h3]), by rw [if_pos hc, if_neg h1, if_neg h2, if_pos h3]⟩
        · refine ⟨(pw s n.toNat, 0), key _ ?_, by rw [if_pos hc, if_neg h1, if_neg h2, if_neg h3]; rfl⟩
          obtain ⟨m, rfl⟩ := Int.eq_ofNat_of_zero_le (show 0 ≤ n by omega)
          have hfit := HPower.fit h3 (by omega)
          rw [if_neg h1, if_neg h2, if_neg h3]
          unfold HRefPower.rep
          rw [Int.toNat_natCast, if_pos ⟨by omega, hn, by rw [Nat.mul_comm]; omega⟩, rep_eq]
          rfl
  · refine ⟨(⟨#[]⟩, HCheck.chk k s), ?_, by rw [if_neg hc]⟩
    refine Ev.bind (refCheck_ok k s (by omega)) ?_
    simp only [if_neg hc]
    exact Ev.now _

theorem law (a0 : Int) (a1 : ByteArray) (a2 : Int) (h1 : a1.size ≤ 140737488351232) (h2 : a2 ≤ 9223372036854775807) : Ev (fun n => PX.eggboxlaw01_WordPowers.f n a0 a1 a2) true := by
  unfold PX.eggboxlaw01_WordPowers.f
  obtain ⟨r, hr, hp⟩ := refPower_ok a0 a1 a2 h1 h2
  refine Ev.bind (g := fun _ => HPower.f a0 a1 a2) (a := r) (Ev.congr (f := fun _ => some r) (fun _ => hp) (Ev.now _)) ?_
  refine Ev.bind (rev_all a0 a1 (by omega)) ?_
  refine Ev.bind (g := fun n => HRefPower.f n a0 a1 a2) hr ?_
  refine Ev.bind (refReverse_ok a0 a1 h1) ?_
  simp only [PW.eggboxlaw01_num.f, Option.bind_some, if_true]
  exact Ev.bind (f := fun _ t => some t) knows_ok (Ev.now _)
end Go.Proofs.Ytjkajepkeepelaa.LPowers
