/- WordOrders: the plain law: the program's Check and Compare answer as the document's. -/
import Derived.Test.YtjkajepkeepelaaPWx2
import Derived.Test.YtjkajepkeepelaaPWx3
import Derived.Test.YtjkajepkeepelaaHOver
set_option linter.unusedVariables false
set_option linter.unusedSimpArgs false
namespace Go.Proofs.Ytjkajepkeepelaa.HComp
open Go.RowKit Go.Proofs.YtjkajepkeepelaaW.PrintWords Go.Proofs.YtjkajepkeepelaaW.PrintLast Go.Proofs.YtjkajepkeepelaaW.PrintMore
open Go.Proofs.Ytjkajepkeepelaa Go.Proofs.Ytjkajepkeepelaa.HMath Go.Proofs.Ytjkajepkeepelaa.HBord Go.Proofs.Ytjkajepkeepelaa.HOver Go.Proofs.Ytjkajepkeepelaa.PW

theorem knows_ok : Ev (fun k => eggboxlaw01_knows.f k) true := Ev.of eggboxlaw01_knows.mono (k := 40) (by kernel_rfl)

theorem bt_get (s : ByteArray) (i : Nat) (h : i < s.size) : bt s (i : Int) = ((s[i]'h).toNat : Int) := by
  simp [bt, h]

theorem refCheck_loop (k : Int) (h1 : 1 ≤ k) (h8 : k ≤ 8) (s : ByteArray) (hs : s.size ≤ 140737488355328) : ∀ (d i : Nat), s.size - i ≤ d →
    Ev (fun n => eggboxref01_Check.l0 n k s (i : Int)) (if (s.data.toList.drop i).all (HCheck.okb k) then 0 else 21) := by
  intro d
  induction d with
  | zero =>
    intro i hd
    refine Ev.step (f := fun _ => some 0) (fun n => ?_) ?_
    · simp only [eggboxref01_Check.l0]
      rw [if_neg (by omega)]
    · rw [List.drop_of_length_le (by simp; omega)]
      exact Ev.now _
  | succ d ih =>
    intro i hd
    by_cases hi : i < s.size
    · have e : s.data.toList.drop i = s[i] :: s.data.toList.drop (i + 1) := by
        rw [List.drop_eq_getElem_cons (by simpa using hi)]
        rfl
      have hb := bt_get s i hi
      have hr := bt_range s (i : Int)
      by_cases hg : HCheck.okb k s[i] = true
      · have hg' := hg
        simp only [HCheck.okb, Bool.and_eq_true, decide_eq_true_eq] at hg'
        refine Ev.step (f := fun n => eggboxref01_Check.l0 n k s ((i + 1 : Nat) : Int)) (fun n => ?_) ?_
        · simp only [eggboxref01_Check.l0]
          rw [if_pos (by omega), if_pos (by omega), if_neg (by omega), if_neg (by omega), w64 (by omega) (by omega)]
          rfl
        · rw [e, List.all_cons, hg, Bool.true_and]
          exact ih (i + 1) (by omega)
      · have hg' : HCheck.okb k s[i] = false := by simpa using hg
        rw [e, List.all_cons, hg', Bool.false_and]
        refine Ev.step (f := fun n => some 21) (fun n => ?_) (Ev.now _)
        simp only [HCheck.okb, Bool.and_eq_false_iff, decide_eq_false_iff_not] at hg'
        simp only [eggboxref01_Check.l0]
        rw [if_pos (by omega), if_pos (by omega)]
        by_cases hl : bt s (i : Int) < 97
        · rw [if_pos hl]
        · rw [if_neg hl, if_pos (by omega)]
    · exact ih i (by omega)

theorem refCheck_ok (k : Int) (s : ByteArray) (hs : s.size ≤ 140737488355328) : Ev (fun n => eggboxref01_Check.f n k s) (HCheck.chk k s) := by
  unfold eggboxref01_Check.f HCheck.chk eggboxref01_Letters.f
  by_cases h1 : k < 1
  · rw [if_pos h1, if_pos (by omega)]
    exact Ev.now _
  · rw [if_neg h1]
    by_cases h2 : k > 8
    · rw [if_pos h2, if_pos (by omega)]
      exact Ev.now _
    · rw [if_neg h2, if_neg (by omega)]
      have := refCheck_loop k (by omega) (by omega) s hs s.size 0 (by omega)
      simpa using this

theorem lessT : ∀ (a b : List UInt8), a.length = b.length → Op.bytesLess a b = true → Lib.compareBytes a b = -1
  | [], [], _, h => by simp [Op.bytesLess] at h
  | a :: xs, b :: ys, hl, h => by
    simp only [Op.bytesLess, Bool.or_eq_true, decide_eq_true_eq, Bool.and_eq_true, beq_iff_eq] at h
    simp only [Lib.compareBytes]
    rcases h with h | ⟨rfl, h⟩
    · rw [if_pos h]
    · rw [if_neg (UInt8.lt_irrefl _), if_neg (UInt8.lt_irrefl _)]
      exact lessT xs ys (by simpa using hl) h
  | [], _ :: _, hl, _ => by simp at hl
  | _ :: _, [], hl, _ => by simp at hl
theorem lessF : ∀ (a b : List UInt8), a.length = b.length → Op.bytesLess a b = false → a ≠ b → Lib.compareBytes a b = 1
  | [], [], _, _, hn => absurd rfl hn
  | a :: xs, b :: ys, hl, h, hn => by
    simp only [Op.bytesLess, Bool.or_eq_false_iff, decide_eq_false_iff_not, Bool.and_eq_false_iff, beq_eq_false_iff_ne] at h
    simp only [Lib.compareBytes]
    rw [if_neg h.1]
    by_cases hba : b < a
    · rw [if_pos hba]
    · have e : a = b := by
        have h1 := h.1
        rw [UInt8.lt_iff_toNat_lt] at h1 hba
        exact UInt8.toNat_inj.1 (by omega)
      subst e
      rw [if_neg hba]
      rcases h.2 with h2 | h2
      · exact absurd rfl h2
      · exact lessF xs ys (by simpa using hl) h2 (fun e => hn (by rw [e]))
  | [], _ :: _, hl, _, _ => by simp at hl
  | _ :: _, [], hl, _, _ => by simp at hl
theorem same0 : ∀ (a : List UInt8), Lib.compareBytes a a = 0
  | [] => rfl
  | a :: xs => by
    simp only [Lib.compareBytes]
    rw [if_neg (UInt8.lt_irrefl _), if_neg (UInt8.lt_irrefl _)]
    exact same0 xs

/-- Length, then letters. -/
def ord (u v : ByteArray) : Int := if u.size = v.size then Lib.compareBytes u.data.toList v.data.toList else if u.size < v.size then -1 else 1

theorem tl (s : ByteArray) : s.toList = s.data.toList := ByteArray.toList_eq s

theorem comp_ok (k : Int) (u v : ByteArray) : Ev (fun n => word_Compare.f n k u v) (if HCheck.chk k u = 0 then (if HCheck.chk k v = 0 then (ord u v, 0) else (0, HCheck.chk k v)) else (0, HCheck.chk k u)) := by
  unfold word_Compare.f word_both.f word_Check.f
  simp only [Option.bind_some]
  by_cases h1 : HCheck.chk k u = 0
  · simp only [if_pos h1, Option.bind_some]
    by_cases h2 : HCheck.chk k v = 0
    · simp only [if_pos h2]
      rw [h2]
      by_cases he : u.data.toList = v.data.toList
      · have e : u = v := by
          cases u; cases v
          simp at he
          rw [he]
        subst e
        have hc : ord u u = 0 := by unfold ord; rw [if_pos rfl]; exact same0 _
        refine Ev.step (f := fun _ => some (0, 0)) (fun n => ?_) (by rw [hc]; exact Ev.now _)
        simp only [word_Compare.j0]
        simp
      · refine Ev.step (f := fun _ => some (ord u v, 0)) (fun n => ?_) (Ev.now _)
        have hf : (u.toList == v.toList) = false := by
          rw [tl, tl]
          exact beq_eq_false_iff_ne.2 he
        simp only [word_Compare.j0]
        rw [hf, if_neg (by simp), tl, tl]
        unfold ord
        by_cases hs : u.size = v.size
        · rw [if_pos hs, if_neg (by omega), if_pos (by omega)]
          have hl : u.data.toList.length = v.data.toList.length := by simpa using hs
          cases hb : Op.bytesLess u.data.toList v.data.toList
          · rw [if_neg (by simp), lessF _ _ hl hb he]
          · rw [if_pos rfl, lessT _ _ hl hb]
        · rw [if_neg hs]
          by_cases hlt : u.size < v.size
          · rw [if_pos hlt, if_pos (by omega)]
          · rw [if_neg hlt, if_neg (by omega), if_neg (by omega)]
    · simp only [if_neg h2]
      refine Ev.step (f := fun _ => some (0, HCheck.chk k v)) (fun n => ?_) (Ev.now _)
      simp only [word_Compare.j0]
      simp
  · simp only [if_neg h1, Option.bind_some]
    refine Ev.step (f := fun _ => some (0, HCheck.chk k u)) (fun n => ?_) (Ev.now _)
    simp only [word_Compare.j0]
    simp

theorem refOrder_ok (u v : ByteArray) : eggboxref01_Order.f u v = some (ord u v) := by
  unfold eggboxref01_Order.f strings_Compare.f ord
  simp only [Option.bind_some]
  by_cases hs : u.size = v.size
  · rw [if_pos (by omega), if_pos hs]
  · rw [if_neg (by omega), if_neg hs]
    by_cases hlt : u.size < v.size
    · rw [if_pos (by omega), if_pos hlt]
    · rw [if_neg (by omega), if_neg hlt]

theorem refComp_ok (k : Int) (u v : ByteArray) (hu : u.size ≤ 140737488355328) (hv : v.size ≤ 140737488355328) : Ev (fun n => eggboxref01_Compare.f n k u v) (if HCheck.chk k u = 0 then (if HCheck.chk k v = 0 then (ord u v, 0) else (0, HCheck.chk k v)) else (0, HCheck.chk k u)) := by
  unfold eggboxref01_Compare.f
  refine Ev.bind (refCheck_ok k u hu) ?_
  by_cases h1 : HCheck.chk k u = 0
  · simp only [if_pos h1]
    refine Ev.bind (refCheck_ok k v hv) ?_
    by_cases h2 : HCheck.chk k v = 0
    · simp only [if_pos h2, refOrder_ok, Option.bind_some]
      exact Ev.now _
    · simp only [if_neg h2]
      exact Ev.now _
  · simp only [if_neg h1]
    exact Ev.now _

theorem orders (k : Int) (u v : ByteArray) (hu : u.size ≤ 140737488351232) (hv : v.size ≤ 140737488351232) : Ev (fun n => eggboxlaw01_WordOrders.f n k u v) true := by
  unfold eggboxlaw01_WordOrders.f
  refine Ev.bind (comp_ok k u v) ?_
  refine Ev.bind (refComp_ok k u v (by omega) (by omega)) ?_
  simp only [word_Check.f, eggboxlaw01_num.f, Option.bind_some]
  refine Ev.bind (refCheck_ok k u (by omega)) ?_
  simp only [if_true]
  exact Ev.bind (f := fun _ t => some t) knows_ok (Ev.now _)
end Go.Proofs.Ytjkajepkeepelaa.HComp
