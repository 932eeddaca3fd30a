/- What word.Root, word.Reverse and word.Power come to; the plain laws WordCommutes, WordTurns, WordRoots. -/
import Derived.Test.YtjkajepkeepelaaHComp
import Derived.Test.YtjkajepkeepelaaHRoot
import Derived.Test.YtjkajepkeepelaaHPower
set_option linter.unusedVariables false
set_option linter.unusedSimpArgs false
namespace Go.Proofs.Ytjkajepkeepelaa.HRoots
open Go.RowKit Go.Proofs.YtjkajepkeepelaaW.PrintWords Go.Proofs.YtjkajepkeepelaaW.PrintLast Go.Proofs.YtjkajepkeepelaaW.PrintMore
open Go.Proofs.Ytjkajepkeepelaa Go.Proofs.Ytjkajepkeepelaa.HMath Go.Proofs.Ytjkajepkeepelaa.HBord Go.Proofs.Ytjkajepkeepelaa.HOver Go.Proofs.Ytjkajepkeepelaa.HComp

theorem ba_ext {u v : ByteArray} (h : u.data.toList = v.data.toList) : u = v := by
  cases u; cases v
  simp at h
  rw [h]
theorem gb_get (s : ByteArray) (i : Nat) (h : i < s.size) : gb s i = ((s.data.toList[i]'(by simpa using h)).toNat : Int) := by
  unfold gb
  rw [bt_get s i h]
  rfl
theorem ext_gb {u v : ByteArray} (hs : u.size = v.size) (h : ∀ i, i < u.size → gb u i = gb v i) : u = v := by
  refine ba_ext (List.ext_getElem (by simpa using hs) (fun i h1 h2 => ?_))
  have h3 : i < u.size := by simpa using h1
  have := h i h3
  rw [gb_get u i h3, gb_get v i (by omega)] at this
  exact UInt8.toNat_inj.1 (by omega)
theorem app_size (u v : ByteArray) : (u ++ v).size = u.size + v.size := by simp
theorem app_list (u v : ByteArray) : (u ++ v).data.toList = u.data.toList ++ v.data.toList := by simp
theorem gb_app1 (u v : ByteArray) (i : Nat) (h : i < u.size) : gb (u ++ v) i = gb u i := by
  rw [gb_get _ i (by rw [app_size]; omega), gb_get u i h]
  simp only [app_list]
  rw [List.getElem_append_left (by simpa using h)]
theorem gb_app2 (u v : ByteArray) (i : Nat) (h : i < v.size) : gb (u ++ v) (u.size + i) = gb v i := by
  rw [gb_get _ _ (by rw [app_size]; omega), gb_get v i h]
  simp only [app_list]
  rw [List.getElem_append_right (by simp)]
  congr 2
  simp
theorem ex_size (s : ByteArray) (p : Nat) (h : p ≤ s.size) : (s.extract 0 p).size = p := by simp; omega
theorem gb_ex (s : ByteArray) (p i : Nat) (h : p ≤ s.size) (hi : i < p) : gb (s.extract 0 p) i = gb s i := by
  rw [gb_get _ i (by rw [ex_size s p h]; exact hi), gb_get s i (by omega)]
  simp only [Lib.extract_data]
  simp
theorem tl_eq (u v : ByteArray) : (u.toList == v.toList) = decide (u = v) := by
  rw [tl, tl]
  by_cases h : u = v
  · subst h; simp
  · rw [decide_eq_false h, beq_eq_false_iff_ne]
    exact fun e => h (ba_ext e)
theorem tl_nil (u : ByteArray) : u.toList = ([] : List UInt8) ↔ u.size = 0 := by
  rw [tl]
  constructor
  · intro h
    have := congrArg List.length h
    simpa using this
  · intro h
    exact List.eq_nil_of_length_eq_zero (by simpa using h)

/-- The root of a word. -/
theorem root_ok (k : Int) (s : ByteArray) (hs : s.size ≤ 1048576) (hc : HCheck.chk k s = 0) (h0 : 0 < s.size) :
    ∃ p, Ev (fun n => HRoot.f n k s) (s.extract 0 p, ((s.size / p : Nat) : Int), 0) ∧ RL (gb s) s.size p := by
  obtain ⟨l, hl, hK⟩ := borders_ok s hs
  obtain ⟨b, hb, hL⟩ := hK.2 s.size (by omega) (Nat.le_refl _) (Nat.le_refl _)
  have hR := RL_of_LB h0 hL
  have hlen := hK.1
  have hbs := hL.1.1
  have hm : (s.size : Int) - (b : Int) = ((s.size - b : Nat) : Int) := by omega
  refine ⟨_, Ev.congr (f := fun n => (PA.word_borders.f n s).bind fun l => if (s.size : Int) < (l.length : Int) ∧ (s.size : Int) ≤ 140737488355328 then (if 0 ≤ rd l s.size then (if rd l s.size < (s.size : Int) then (if (s.size : Int) % ((s.size : Int) - rd l s.size) = 0 then some (s.extract 0 ((s.size : Int) - rd l s.size).toNat, wrap64 ((s.size : Int) / ((s.size : Int) - rd l s.size)), 0) else some (s, wrap64 ((s.size : Int) / (s.size : Int)), 0)) else none) else none) else none) (fun n => by unfold HRoot.f; rw [if_pos hc, if_neg (by omega)]) ?_, hR⟩
  refine Ev.bind hl ?_
  rw [if_pos (by omega), hb, if_pos (by omega), if_pos (by omega), hm]
  by_cases hd : s.size % (s.size - b) = 0
  · rw [if_pos hd, if_pos (by omega), Int.toNat_natCast]
    have e : (s.size : Int) / ((s.size - b : Nat) : Int) = ((s.size / (s.size - b) : Nat) : Int) := by simp
    have hq : s.size / (s.size - b) ≤ s.size := Nat.div_le_self _ _
    rw [e]
    generalize s.size / (s.size - b) = dd at *
    rw [w64 (by omega) (by omega)]
    exact Ev.now _
  · rw [if_neg hd, if_neg (by omega)]
    have e1 : s.extract 0 s.size = s := by simp
    have e : (s.size : Int) / (s.size : Int) = 1 := Int.ediv_self (by omega)
    rw [e1, e, Nat.div_self h0, w64 (by omega) (by omega)]
    exact Ev.now _

theorem root_nil (k : Int) (s : ByteArray) (hc : HCheck.chk k s = 0) (h0 : s.size = 0) : Ev (fun n => HRoot.f n k s) (⟨#[]⟩, 0, 0) :=
  Ev.congr (f := fun _ => some (⟨#[]⟩, 0, 0)) (fun n => by unfold HRoot.f; rw [if_pos hc, if_pos (by omega)]) (Ev.now _)

theorem app_comm_iff {u v : ByteArray} (hu : 0 < u.size) (hv : 0 < v.size) {p q : Nat} (hp : RL (gb u) u.size p) (hq : RL (gb v) v.size q) :
    u ++ v = v ++ u ↔ u.extract 0 p = v.extract 0 q := by
  have pu := Nat.le_of_dvd hu hp.dvd
  have qv := Nat.le_of_dvd hv hq.dvd
  constructor
  · intro h
    obtain ⟨e, hh⟩ := commute_root (g := gb (u ++ v)) hu hv hp hq (fun i hi => gb_app1 u v i hi) (fun i hi => gb_app2 u v i hi) (fun i hi => by rw [h]; exact gb_app1 v u i hi) (fun i hi => by rw [h]; exact gb_app2 v u i hi)
    refine ext_gb (by rw [ex_size u p pu, ex_size v q qv, e]) (fun i hi => ?_)
    rw [ex_size u p pu] at hi
    rw [gb_ex u p i pu hi, gb_ex v q i qv (by omega)]
    exact hh i hi
  · intro h
    have e : p = q := by
      have := congrArg ByteArray.size h
      rw [ex_size u p pu, ex_size v q qv] at this
      exact this
    subst e
    have hh : ∀ i, i < p → gb u i = gb v i := fun i hi => by
      rw [← gb_ex u p i pu hi, ← gb_ex v p i qv hi, h]
    have cu : ∀ i, i < u.size → gb u i = gb u (i % p) := fun i hi => Per_mod hp.per hp.pos hi
    have cv : ∀ i, i < v.size → gb v i = gb u (i % p) := fun i hi => by
      rw [Per_mod hq.per hp.pos hi, hh _ (Nat.mod_lt _ hp.pos)]
    have key : ∀ (x y : ByteArray), p ∣ x.size → (∀ i, i < x.size → gb x i = gb u (i % p)) → (∀ i, i < y.size → gb y i = gb u (i % p)) → ∀ i, i < x.size + y.size → gb (x ++ y) i = gb u (i % p) := by
      intro x y hd hx hy i hi
      by_cases h1 : i < x.size
      · rw [gb_app1 x y i h1, hx i h1]
      · obtain ⟨j, rfl⟩ : ∃ j, i = x.size + j := ⟨i - x.size, by omega⟩
        rw [gb_app2 x y j (by omega), hy j (by omega)]
        obtain ⟨c, hc⟩ := hd
        rw [hc, Nat.mul_add_mod]
    refine ext_gb (by rw [app_size, app_size]; omega) (fun i hi => ?_)
    rw [app_size] at hi
    rw [key u v hp.dvd cu cv i hi, key v u hq.dvd cv cu i (by omega)]

theorem commutes (a0 : Int) (a1 a2 : ByteArray) (h1 : a1.size ≤ 1048576) (h2 : a2.size ≤ 1048576) : Ev (fun n => PW.eggboxlaw01_WordCommutes.f n a0 a1 a2) true := by
  obtain ⟨g1, g2⟩ := letters_ok a0
  unfold PW.eggboxlaw01_WordCommutes.f
  simp only [PW.eggboxlaw01_letters.f, PW.eggboxlaw01_num.f, Option.bind_some]
  generalize wrap64 (1 + (Int.tmod (wrap64 ((Int.tmod a0 8) + 8)) 8)) = m at *
  obtain ⟨u, hu1, hu2, hu3⟩ := over_ok m g1 g2 a1 (by omega)
  obtain ⟨v, hv1, hv2, hv3⟩ := over_ok m g1 g2 a2 (by omega)
  refine Ev.bind hu1 (Ev.bind hv1 ?_)
  have fin : ∀ b : Bool, b = true → Ev (fun k => (PW.eggboxlaw01_knows.f k).bind fun t => some t) true := fun _ _ => Ev.bind (f := fun _ t => some t) knows_ok (Ev.now _)
  have nilr : ∀ {x y : ByteArray}, x.size = 0 → x ++ y = y ++ x := fun {x y} h => ba_ext (by
    have : x.data.toList = [] := List.eq_nil_of_length_eq_zero (by simpa using h)
    rw [app_list, app_list, this]; simp)
  by_cases zu : u.size = 0
  · refine Ev.bind (g := fun k => PW.word_Root.f k m u) (root_nil m u hu3 zu) ?_
    have rv : ∃ r, Ev (fun k => PW.word_Root.f k m v) r ∧ r.2.2 = 0 := by
      by_cases zv : v.size = 0
      · exact ⟨_, root_nil m v hv3 zv, rfl⟩
      · obtain ⟨p, hr, _⟩ := root_ok m v (by omega) hv3 (by omega)
        exact ⟨_, hr, rfl⟩
    obtain ⟨r, hr, hz⟩ := rv
    refine Ev.bind hr ?_
    simp only [hz]
    simp only [if_pos (show wrap64 (0 + 0) = 0 by unfold wrap64; omega), if_pos (show u.size + v.size ≤ 9223372036854775807 by omega), if_pos (show v.size + u.size ≤ 9223372036854775807 by omega), if_pos ((tl_nil u).2 zu), tl_eq, decide_eq_true (nilr (y := v) zu), beq_self_eq_true, if_true]
    exact fin true rfl
  · obtain ⟨p, hp, hpR⟩ := root_ok m u (by omega) hu3 (by omega)
    refine Ev.bind (g := fun k => PW.word_Root.f k m u) hp ?_
    by_cases zv : v.size = 0
    · refine Ev.bind (g := fun k => PW.word_Root.f k m v) (root_nil m v hv3 zv) ?_
      simp only [if_pos (show wrap64 (0 + 0) = 0 by unfold wrap64; omega), if_pos (show u.size + v.size ≤ 9223372036854775807 by omega), if_pos (show v.size + u.size ≤ 9223372036854775807 by omega), if_neg (fun h => zu ((tl_nil u).1 h)), if_pos ((tl_nil v).2 zv), tl_eq, decide_eq_true (nilr (y := u) zv).symm, beq_self_eq_true, if_true]
      exact fin true rfl
    · obtain ⟨q, hq, hqR⟩ := root_ok m v (by omega) hv3 (by omega)
      refine Ev.bind (g := fun k => PW.word_Root.f k m v) hq ?_
      have hiff := app_comm_iff (by omega) (by omega) hpR hqR
      have hb : (decide (u ++ v = v ++ u) == decide (u.extract 0 p = v.extract 0 q)) = true := by
        rw [beq_iff_eq]
        exact decide_eq_decide.2 hiff
      simp only [if_pos (show wrap64 (0 + 0) = 0 by unfold wrap64; omega), if_pos (show u.size + v.size ≤ 9223372036854775807 by omega), if_pos (show v.size + u.size ≤ 9223372036854775807 by omega), if_neg (fun h => zu ((tl_nil u).1 h)), if_neg (fun h => zv ((tl_nil v).1 h)), tl_eq, hb, if_true]
      exact fin true rfl

def rv (s : ByteArray) : ByteArray := ⟨s.data.toList.reverse.toArray⟩
theorem rv_list (s : ByteArray) : (rv s).data.toList = s.data.toList.reverse := by simp [rv]
theorem rv_size (s : ByteArray) : (rv s).size = s.size := by
  have := congrArg List.length (rv_list s)
  simpa using this
theorem rv_rv (s : ByteArray) : rv (rv s) = s := ba_ext (by rw [rv_list, rv_list, List.reverse_reverse])
theorem rv_app (u v : ByteArray) : rv (u ++ v) = rv v ++ rv u := ba_ext (by rw [rv_list, app_list, app_list, rv_list, rv_list, List.reverse_append])
theorem rv_chk (k : Int) (s : ByteArray) : HCheck.chk k (rv s) = HCheck.chk k s := by
  unfold HCheck.chk
  rw [rv_list, List.all_reverse]
theorem gb_rv (s : ByteArray) (i : Nat) (h : i < s.size) : gb (rv s) i = gb s (s.size - 1 - i) := by
  rw [gb_get _ i (by rw [rv_size]; exact h), gb_get s _ (by omega)]
  simp only [rv_list, List.getElem_reverse]
  simp
theorem gb_str (l : List Int) (i : Nat) (h : i < l.length) (h0 : 0 ≤ rd l (i : Int)) (h1 : rd l (i : Int) < 256) : gb (strOfNums l) i = rd l (i : Int) := by
  rw [gb_get _ i (by rw [strOf_size]; exact h)]
  simp only [strOf_bytes, List.getElem_map]
  have e : rd l (i : Int) = l[i] := by simp [rd, List.getD_eq_getElem?_getD, List.getElem?_eq_getElem h]
  rw [e] at h0 h1 ⊢
  rw [UInt8.toNat_ofNat']
  omega

theorem turned_loop (s : ByteArray) (hs : s.size ≤ 281474976710656) : ∀ (d i : Nat) (l : List Int), s.size - i ≤ d → i ≤ s.size → l.length = s.size → (∀ j : Nat, j < i → rd l ((s.size - 1 - j : Nat) : Int) = bt s (j : Int)) →
    Ev (fun k => PW.word_turned.l0 k s l (s.size : Int) (i : Int)) (rv s) := by
  intro d
  induction d with
  | zero =>
    intro i l hd hi hl hx
    have e : strOfNums l = rv s := by
      refine ext_gb (by rw [strOf_size, rv_size, hl]) (fun j hj => ?_)
      rw [strOf_size] at hj
      have h := hx (s.size - 1 - j) (by omega)
      rw [show s.size - 1 - (s.size - 1 - j) = j by omega] at h
      have hr := bt_range s ((s.size - 1 - j : Nat) : Int)
      rw [gb_str l j hj (by omega) (by omega), h, gb_rv s j (by omega)]
      rfl
    refine Ev.step (f := fun _ => some (strOfNums l)) (fun k => ?_) (by rw [e]; exact Ev.now _)
    simp only [PW.word_turned.l0]
    rw [if_neg (by omega)]
  | succ d ih =>
    intro i l hd hi hl hx
    by_cases hlt : i < s.size
    · have e1 : wrap64 ((s.size : Int) - 1) = (s.size : Int) - 1 := w64 (by omega) (by omega)
      have e2 : wrap64 ((s.size : Int) - 1 - (i : Int)) = ((s.size - 1 - i : Nat) : Int) := by rw [w64 (by omega) (by omega)]; omega
      refine Ev.step (f := fun k => PW.word_turned.l0 k s (l.set (s.size - 1 - i) (bt s (i : Int))) (s.size : Int) ((i + 1 : Nat) : Int)) (fun k => ?_) (ih (i + 1) _ (by omega) (by omega) (by simpa using hl) (fun j hj => ?_))
      · simp only [PW.word_turned.l0]
        rw [if_pos (by omega), if_pos (by omega), if_pos (by omega), e1, e2, if_pos (by omega), if_pos (by omega), w64 (by omega) (by omega), Int.toNat_natCast]
        rfl
      · by_cases e : j = i
        · subst e
          exact rd_set_same _ _ _ (by omega)
        · rw [rd_set_ne _ _ _ _ (by omega)]
          exact hx j (by omega)
    · exact ih i l (by omega) hi hl hx

theorem turned_ok (s : ByteArray) (hs : s.size ≤ 281474976710656) : Ev (fun k => PW.word_turned.f k s) (rv s) := by
  refine Ev.congr (f := fun k => PW.word_turned.l0 k s (List.replicate s.size 0) (s.size : Int) ((0 : Nat) : Int)) (fun k => ?_) (turned_loop s hs s.size 0 _ (by omega) (by omega) (by simp) (fun j hj => by omega))
  unfold PW.word_turned.f
  rw [if_pos (by omega), if_pos (by omega), Int.toNat_natCast]
  rfl

theorem reverse_ok (k : Int) (s : ByteArray) (hs : s.size ≤ 281474976710656) (hc : HCheck.chk k s = 0) : Ev (fun n => PW.word_Reverse.f n k s) (rv s, 0) := by
  unfold PW.word_Reverse.f PW.word_Check.f
  simp only [Option.bind_some, if_pos hc]
  exact Ev.bind (f := fun _ t => some (t, (0 : Int))) (turned_ok s hs) (Ev.now _)

theorem anti : ∀ a b : List UInt8, Lib.compareBytes a b = - Lib.compareBytes b a
  | [], [] => rfl
  | [], _ :: _ => rfl
  | _ :: _, [] => rfl
  | a :: xs, b :: ys => by
    simp only [Lib.compareBytes]
    by_cases h1 : a < b
    · have h2 : ¬ b < a := fun h => by
        rw [UInt8.lt_iff_toNat_lt] at h h1
        omega
      rw [if_pos h1, if_neg h2, if_pos h1]
    · rw [if_neg h1]
      by_cases h2 : b < a
      · rw [if_pos h2, if_pos h2]
        rfl
      · rw [if_neg h2, if_neg h2, if_neg h1]
        exact anti xs ys
theorem ord_anti (u v : ByteArray) : ord u v = - ord v u := by
  unfold ord
  by_cases h : u.size = v.size
  · rw [if_pos h, if_pos h.symm]
    exact anti _ _
  · rw [if_neg h, if_neg (Ne.symm h)]
    by_cases hl : u.size < v.size
    · rw [if_pos hl, if_neg (by omega)]
    · rw [if_neg hl, if_pos (by omega)]
      rfl
theorem ord_range (u v : ByteArray) : -1 ≤ ord u v ∧ ord u v ≤ 1 := by
  have key : ∀ a b : List UInt8, -1 ≤ Lib.compareBytes a b ∧ Lib.compareBytes a b ≤ 1 := by
    intro a
    induction a with
    | nil => intro b; cases b <;> simp [Lib.compareBytes]
    | cons x a ih =>
      intro b
      cases b with
      | nil => simp [Lib.compareBytes]
      | cons y b =>
        simp only [Lib.compareBytes]
        split
        · omega
        · split
          · omega
          · exact ih b
  unfold ord
  split
  · exact key _ _
  · split <;> omega
theorem ord_cons (c : UInt8) (u v : ByteArray) : ord ((⟨#[c]⟩ : ByteArray) ++ u) ((⟨#[c]⟩ : ByteArray) ++ v) = ord u v := by
  unfold ord
  rw [app_size, app_size, app_list, app_list]
  have e : (⟨#[c]⟩ : ByteArray).data.toList = [c] := rfl
  have e1 : (⟨#[c]⟩ : ByteArray).size = 1 := rfl
  have e2 : Lib.compareBytes ([c] ++ u.data.toList) ([c] ++ v.data.toList) = Lib.compareBytes u.data.toList v.data.toList := by
    show Lib.compareBytes (c :: u.data.toList) (c :: v.data.toList) = _
    simp only [Lib.compareBytes]
    rw [if_neg (UInt8.lt_irrefl _), if_neg (UInt8.lt_irrefl _)]
  rw [e, e1, e2]
  by_cases h : u.size = v.size
  · rw [if_pos h, if_pos (by omega)]
  · rw [if_neg h, if_neg (by omega)]
    by_cases h2 : u.size < v.size
    · rw [if_pos h2, if_pos (by omega)]
    · rw [if_neg h2, if_neg (by omega)]

theorem chk_k {k : Int} {s : ByteArray} (h : HCheck.chk k s = 0) : 1 ≤ k ∧ k ≤ 8 := by
  unfold HCheck.chk at h
  by_cases hk : k < 1 ∨ 8 < k
  · rw [if_pos hk] at h; cases h
  · omega
theorem chk_all {k : Int} {s : ByteArray} (h : HCheck.chk k s = 0) : s.data.toList.all (HCheck.okb k) = true := by
  have := chk_k h
  unfold HCheck.chk at h
  rw [if_neg (by omega)] at h
  by_cases ha : s.data.toList.all (HCheck.okb k) = true
  · exact ha
  · rw [if_neg ha] at h; cases h
theorem chk_of {k : Int} {s : ByteArray} (h1 : 1 ≤ k) (h8 : k ≤ 8) (h : s.data.toList.all (HCheck.okb k) = true) : HCheck.chk k s = 0 := by
  unfold HCheck.chk
  rw [if_neg (by omega), if_pos h]
theorem chk_app {k : Int} {u v : ByteArray} (hu : HCheck.chk k u = 0) (hv : HCheck.chk k v = 0) : HCheck.chk k (u ++ v) = 0 :=
  chk_of (chk_k hu).1 (chk_k hu).2 (by rw [app_list, List.all_append, chk_all hu, chk_all hv]; rfl)
theorem chk_a {k : Int} (h1 : 1 ≤ k) (h8 : k ≤ 8) : HCheck.chk k (⟨#[97]⟩ : ByteArray) = 0 := chk_of h1 h8 (by
  show List.all [97] (HCheck.okb k) = true
  simp [HCheck.okb]
  omega)

theorem comp_good (k : Int) (u v : ByteArray) (hu : HCheck.chk k u = 0) (hv : HCheck.chk k v = 0) : Ev (fun n => PW.word_Compare.f n k u v) (ord u v, 0) := by
  have := comp_ok k u v
  rw [if_pos hu, if_pos hv] at this
  exact this

theorem turns (a0 : Int) (a1 a2 : ByteArray) (h1 : a1.size ≤ 140737488351232) (h2 : a2.size ≤ 140737488351232) : Ev (fun n => PW.eggboxlaw01_WordTurns.f n a0 a1 a2) true := by
  obtain ⟨g1, g2⟩ := letters_ok a0
  unfold PW.eggboxlaw01_WordTurns.f
  simp only [PW.eggboxlaw01_letters.f, PW.eggboxlaw01_num.f, Option.bind_some]
  generalize wrap64 (1 + (Int.tmod (wrap64 ((Int.tmod a0 8) + 8)) 8)) = m at *
  obtain ⟨u, hu1, hu2, hu3⟩ := over_ok m g1 g2 a1 h1
  obtain ⟨v, hv1, hv2, hv3⟩ := over_ok m g1 g2 a2 h2
  refine Ev.bind hu1 (Ev.bind hv1 ?_)
  refine Ev.bind (reverse_ok m u (by omega) hu3) (Ev.bind (reverse_ok m v (by omega) hv3) ?_)
  simp only [if_pos (show u.size + v.size ≤ 9223372036854775807 by omega)]
  refine Ev.bind (reverse_ok m (u ++ v) (by rw [app_size]; omega) (chk_app hu3 hv3)) ?_
  refine Ev.bind (reverse_ok m (rv u) (by rw [rv_size]; omega) (by rw [rv_chk]; exact hu3)) ?_
  refine Ev.bind (comp_good m u v hu3 hv3) ?_
  simp only [if_pos (show 1 + u.size ≤ 9223372036854775807 by omega), if_pos (show 1 + v.size ≤ 9223372036854775807 by omega)]
  refine Ev.bind (comp_good m _ _ (chk_app (chk_a g1 g2) hu3) (chk_app (chk_a g1 g2) hv3)) ?_
  refine Ev.bind (comp_good m v u hv3 hu3) ?_
  have hr := ord_range u v
  have e2 : wrap64 (-ord v u) = ord u v := by
    rw [ord_anti u v]
    have := ord_range v u
    exact w64 (by omega) (by omega)
  have z : wrap64 (0 + 0) = 0 := by unfold wrap64; omega
  simp only [z, if_true, rv_size, if_pos (show v.size + u.size ≤ 9223372036854775807 by omega), rv_app, rv_rv, ord_cons, e2]
  exact Ev.bind (f := fun _ t => some t) knows_ok (Ev.now _)
end Go.Proofs.Ytjkajepkeepelaa.HRoots
