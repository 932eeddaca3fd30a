/- WordRoots: the plain law. -/
import Derived.Test.YtjkajepkeepelaaHRoots
set_option linter.unusedVariables false
set_option linter.unusedSimpArgs false
namespace Go.Proofs.Ytjkajepkeepelaa.LRoots
open Go.RowKit Go.Proofs.YtjkajepkeepelaaW.PrintWords Go.Proofs.YtjkajepkeepelaaW.PrintLast Go.Proofs.YtjkajepkeepelaaW.PrintMore
open Go.Proofs.Ytjkajepkeepelaa Go.Proofs.Ytjkajepkeepelaa.HMath Go.Proofs.Ytjkajepkeepelaa.HBord Go.Proofs.Ytjkajepkeepelaa.HOver Go.Proofs.Ytjkajepkeepelaa.HComp Go.Proofs.Ytjkajepkeepelaa.HRoots

def pw (s : ByteArray) (n : Nat) : ByteArray := strOfNums (HPower.reps (bytesOf s) n)
theorem bytes_eq (s : ByteArray) : strOfNums (bytesOf s) = s := ba_ext (by
  rw [strOf_bytes]
  simp only [bytesOf, List.map_map]
  conv => rhs; rw [← List.map_id s.data.toList]
  refine List.map_congr_left (fun b _ => ?_)
  simp)
theorem strOf_app (a b : List Int) : strOfNums (a ++ b) = strOfNums a ++ strOfNums b := ba_ext (by rw [app_list, strOf_bytes, strOf_bytes, strOf_bytes, List.map_append])
theorem pw_zero (s : ByteArray) : pw s 0 = ⟨#[]⟩ := rfl
theorem pw_succ (s : ByteArray) (n : Nat) : pw s (n + 1) = pw s n ++ s := by
  unfold pw
  rw [HPower.reps, strOf_app, bytes_eq]
theorem pw_size (s : ByteArray) : ∀ n, (pw s n).size = n * s.size
  | 0 => by rw [pw_zero, Nat.zero_mul]; rfl
  | n + 1 => by rw [pw_succ, app_size, pw_size s n, Nat.succ_mul]
theorem pw_gb (s : ByteArray) (h0 : 0 < s.size) : ∀ n i, i < n * s.size → gb (pw s n) i = gb s (i % s.size)
  | 0, i, h => by simp at h
  | n + 1, i, h => by
    rw [pw_succ]
    by_cases h1 : i < n * s.size
    · rw [gb_app1 _ _ i (by rw [pw_size]; exact h1)]
      exact pw_gb s h0 n i h1
    · obtain ⟨j, rfl⟩ : ∃ j, i = n * s.size + j := ⟨i - n * s.size, by omega⟩
      rw [Nat.succ_mul] at h
      have := gb_app2 (pw s n) s j (by omega)
      rw [pw_size] at this
      rw [this, Nat.mul_comm, Nat.mul_add_mod, Nat.mod_eq_of_lt (by omega)]
theorem pw_chk {k : Int} {s : ByteArray} (hc : HCheck.chk k s = 0) : ∀ n, HCheck.chk k (pw s n) = 0
  | 0 => chk_of (chk_k hc).1 (chk_k hc).2 (by rw [pw_zero]; rfl)
  | n + 1 => by rw [pw_succ]; exact chk_app (pw_chk hc n) hc
theorem ex_chk {k : Int} {s : ByteArray} (hc : HCheck.chk k s = 0) (p : Nat) : HCheck.chk k (s.extract 0 p) = 0 :=
  chk_of (chk_k hc).1 (chk_k hc).2 (by
    rw [List.all_eq_true]
    intro b hb
    rw [Lib.extract_data] at hb
    exact List.all_eq_true.1 (chk_all hc) b (List.mem_of_mem_drop (List.mem_of_mem_take hb)))

theorem ex_all (s : ByteArray) : s.extract 0 s.size = s := by simp

open PW in
theorem j3_bad (j : Nat) (k n : Int) (s r : ByteArray) (t : Int) (x : ByteArray) (e : Int) (b : Bool) (he : e ≠ 0) (hb : b = false) (hw : wrap64 (n * (s.size : Int)) > 4096) (hx : x.toList = ([] : List UInt8)) :
    eggboxlaw01_WordRoots.j3 (j + 1) k n s r t x e b = some true := by
  simp only [eggboxlaw01_WordRoots.j3, eggboxlaw01_num.f, Option.bind_some]
  rw [if_neg (by simp [hb]), if_neg he, if_pos hw, hx]
  rfl

open PW in
theorem tail (k : Int) (s : ByteArray) (hs : s.size ≤ 1048576) (hc : HCheck.chk k s = 0) (h0 : 0 < s.size) (p n : Nat) (hR : RL (gb s) s.size p) (hn1 : 1 ≤ n) (hn50 : n ≤ 50) :
    Ev (fun j => eggboxlaw01_WordRoots.l0 j k (n : Int) s (s.extract 0 p) ((s.size / p : Nat) : Int) (s.size : Int)) true := by
  have hp := Nat.le_of_dvd h0 hR.dvd
  have hp0 := hR.pos
  have er := ex_size s p hp
  -- the root's root
  obtain ⟨q, hq, hqR⟩ := root_ok k (s.extract 0 p) (by omega) (ex_chk hc p) (by omega)
  have hq1 : q = p := by
    have h1 : RL (gb s) p q := by
      rw [er] at hqR
      exact RL_congr (fun i hi => gb_ex s p i hp hi) hqR
    exact RL_unique h1 (RL_root h0 hR)
  subst hq1
  rw [er, Nat.div_self hp0] at hq
  have e2 : (s.extract 0 q).extract 0 q = s.extract 0 q := by
    have := ex_all (s.extract 0 q)
    rw [er] at this
    exact this
  rw [e2] at hq
  refine Ev.step (f := fun j => (word_Root.f j k (s.extract 0 q)).bind fun bt189 => ((word_Power.f k s (n : Int)).bind fun bt192 => ((eggboxlaw01_num.f bt189.2.2).bind fun t194 => (if t194 = 0 then (if bt189.1.toList = (s.extract 0 q).toList then (eggboxlaw01_WordRoots.j3 j k (n : Int) s (s.extract 0 q) ((s.size / q : Nat) : Int) bt192.1 bt192.2 (bt189.2.1 != 1)) else (eggboxlaw01_WordRoots.j3 j k (n : Int) s (s.extract 0 q) ((s.size / q : Nat) : Int) bt192.1 bt192.2 true)) else (eggboxlaw01_WordRoots.j3 j k (n : Int) s (s.extract 0 q) ((s.size / q : Nat) : Int) bt192.1 bt192.2 true))))) (fun j => by simp only [eggboxlaw01_WordRoots.l0]; rw [if_neg (by omega)]) ?_
  refine Ev.bind (g := fun j => word_Root.f j k (s.extract 0 q)) hq ?_
  have hns : wrap64 ((n : Int) * (s.size : Int)) = ((n * s.size : Nat) : Int) := by
    have h1 : n * s.size ≤ 50 * 1048576 := Nat.mul_le_mul hn50 hs
    rw [w64]
    · simp
    · have : (0 : Int) ≤ (n : Int) * (s.size : Int) := Int.mul_nonneg (by omega) (by omega)
      omega
    · have e : (n : Int) * (s.size : Int) = ((n * s.size : Nat) : Int) := by simp
      rw [e]
      generalize n * s.size = z at *
      omega
  unfold word_Power.f HPower.f
  simp only [if_pos hc, if_neg (show ¬ (n : Int) < 0 by omega), if_neg (show ¬ (s.size : Int) = 0 by omega)]
  by_cases hbig : 4096 / (s.size : Int) < (n : Int)
  · simp only [if_pos hbig, Option.bind_some, eggboxlaw01_num.f, if_true]
    have hgt : 4096 < n * s.size := by
      have h1 : 4096 < (n : Int) * (s.size : Int) := Int.lt_mul_of_ediv_lt (by omega) hbig
      have e : (n : Int) * (s.size : Int) = ((n * s.size : Nat) : Int) := by simp
      rw [e] at h1
      generalize n * s.size = z at *
      omega
    refine Ev.step (f := fun _ => some true) (fun j => ?_) (Ev.now _)
    have hw : wrap64 ((n : Int) * (s.size : Int)) > 4096 := by
      rw [hns]
      generalize n * s.size = z at *
      omega
    exact j3_bad j k (n : Int) s _ _ _ _ _ (by omega) (by decide) hw (by rw [tl])
  · have hpw : strOfNums (HPower.reps (bytesOf s) n) = pw s n := rfl
    simp only [if_neg hbig, Option.bind_some, eggboxlaw01_num.f, if_true, Int.toNat_natCast, hpw]
    have hfit := HPower.fit hbig h0
    have hsz := pw_size s n
    have hpos : s.size ≤ n * s.size := Nat.le_mul_of_pos_left _ hn1
    have hper : ∀ i, i < n * s.size → gb (pw s n) i = gb s (i % q) := fun i hi => by
      rw [pw_gb s h0 n i hi, Per_mod hR.per hp0 (Nat.mod_lt _ h0), Nat.mod_mod_of_dvd _ hR.dvd]
    have hR1 : RL (gb (pw s n)) s.size q := RL_congr (fun i hi => by rw [hper i (by omega), Per_mod hR.per hp0 hi]) hR
    have hR2 : RL (gb (pw s n)) (n * s.size) q := RL_power h0 hR1 hpos (Nat.dvd_trans hR.dvd (Nat.dvd_mul_left _ _)) (fun i hi => by
      rw [hper i (by omega), hper (i + q) hi, Nat.add_mod_right])
    obtain ⟨z, hz, hzR⟩ := root_ok k (pw s n) (by omega) (pw_chk hc n) (by omega)
    rw [hsz] at hz hzR
    have ez : z = q := RL_unique hzR hR2
    subst ez
    have e3 : (pw s n).extract 0 z = s.extract 0 z := by
      refine ext_gb (by rw [ex_size _ _ (by omega), er]) (fun i hi => ?_)
      rw [ex_size _ _ (by omega)] at hi
      rw [gb_ex _ _ _ (by omega) hi, gb_ex s z i hp hi, hper i (by omega), Nat.mod_eq_of_lt hi]
    rw [e3] at hz
    refine Ev.step (f := fun j => (word_Root.f j k (pw s n)).bind fun bt196 => (if bt196.2.2 = 0 then (if bt196.1.toList = (s.extract 0 z).toList then (if bt196.2.1 = (wrap64 (((s.size / z : Nat) : Int) * (n : Int))) then (some (((pw s n).size : Int) == (wrap64 ((n : Int) * (s.size : Int))))) else (some false)) else (some false)) else (some false))) (fun j => ?_) ?_
    · simp only [eggboxlaw01_WordRoots.j3, eggboxlaw01_num.f, Option.bind_some]
      rw [if_neg (by simp), if_pos trivial]
    · refine Ev.bind (g := fun j => word_Root.f j k (pw s n)) hz ?_
      simp only [if_true]
      have ed : n * s.size / z = s.size / z * n := by
        rw [Nat.mul_div_assoc _ hR.dvd, Nat.mul_comm]
      have hle : s.size / z * n ≤ 4096 := by
        rw [← ed]
        exact Nat.le_trans (Nat.div_le_self _ _) hfit
      have ew : wrap64 (((s.size / z : Nat) : Int) * (n : Int)) = ((s.size / z * n : Nat) : Int) := by
        have e : ((s.size / z : Nat) : Int) * (n : Int) = ((s.size / z * n : Nat) : Int) := by simp
        rw [e]
        generalize s.size / z * n = y at *
        exact w64 (by omega) (by omega)
      rw [ew, ed, if_pos rfl, hns, hsz]
      simp only [beq_self_eq_true]
      exact Ev.now _

open PW in
theorem loop (k : Int) (s : ByteArray) (hs : s.size ≤ 1048576) (hc : HCheck.chk k s = 0) (h0 : 0 < s.size) (p n : Nat) (hR : RL (gb s) s.size p) (hn1 : 1 ≤ n) (hn50 : n ≤ 50) :
    ∀ (d i : Nat), s.size - i ≤ d → i ≤ s.size → Ev (fun j => eggboxlaw01_WordRoots.l0 j k (n : Int) s (s.extract 0 p) ((s.size / p : Nat) : Int) (i : Int)) true := by
  have hp := Nat.le_of_dvd h0 hR.dvd
  have hp0 := hR.pos
  have er := ex_size s p hp
  intro d
  induction d with
  | zero =>
    intro i hd hi
    obtain rfl : i = s.size := by omega
    exact tail k s hs hc h0 p n hR hn1 hn50
  | succ d ih =>
    intro i hd hi
    by_cases hlt : i < s.size
    · have hm : Int.tmod (i : Int) (((s.extract 0 p).size : Nat) : Int) = ((i % p : Nat) : Int) := by
        rw [er, Int.tmod_eq_emod_of_nonneg (by omega)]
        simp
      have hml := Nat.mod_lt i hp0
      refine Ev.step (f := fun j => eggboxlaw01_WordRoots.l0 j k (n : Int) s (s.extract 0 p) ((s.size / p : Nat) : Int) ((i + 1 : Nat) : Int)) (fun j => ?_) (ih (i + 1) (by omega) (by omega))
      have eb : bt s (i : Int) = bt (s.extract 0 p) ((i % p : Nat) : Int) := by
        have h1 := Per_mod hR.per hp0 hlt
        have h2 := gb_ex s p (i % p) hp hml
        exact h1.trans h2.symm
      simp only [eggboxlaw01_WordRoots.l0]
      rw [if_pos (by omega), if_pos (by omega), if_neg (by omega), hm]
      generalize i % p = z at *
      rw [if_pos (by omega), if_pos (by omega), if_pos eb, w64 (by omega) (by omega)]
      rfl
    · obtain rfl : i = s.size := by omega
      exact tail k s hs hc h0 p n hR hn1 hn50

theorem fifty (x : Int) : ∃ n : Nat, wrap64 (1 + (Int.tmod (wrap64 ((Int.tmod x 50) + 50)) 50)) = (n : Int) ∧ 1 ≤ n ∧ n ≤ 50 := by
  have h1 := Int.tmod_lt_of_pos x (show (0 : Int) < 50 by decide)
  have h2 : -50 < Int.tmod x 50 := by
    by_cases h : 0 ≤ x
    · rw [Int.tmod_eq_emod_of_nonneg h]; omega
    · have e : x = -(-x) := by omega
      rw [e, Int.neg_tmod, Int.tmod_eq_emod_of_nonneg (by omega)]; omega
  generalize Int.tmod x 50 = r at *
  have e1 : wrap64 (r + 50) = r + 50 := w64 (by omega) (by omega)
  rw [e1, Int.tmod_eq_emod_of_nonneg (by omega), w64 (by omega) (by omega)]
  exact ⟨(1 + (r + 50) % 50).toNat, by omega, by omega, by omega⟩

open PW in
theorem law (a0 : Int) (a1 : ByteArray) (a2 : Int) (h1 : a1.size ≤ 1048576) : Ev (fun j => eggboxlaw01_WordRoots.f j a0 a1 a2) true := by
  obtain ⟨g1, g2⟩ := letters_ok a0
  obtain ⟨n, hn, n1, n50⟩ := fifty a2
  unfold eggboxlaw01_WordRoots.f
  simp only [eggboxlaw01_letters.f, eggboxlaw01_num.f, Option.bind_some, hn]
  generalize wrap64 (1 + (Int.tmod (wrap64 ((Int.tmod a0 8) + 8)) 8)) = m at *
  obtain ⟨s, hs1, hs2, hs3⟩ := over_ok m g1 g2 a1 (by omega)
  refine Ev.bind hs1 ?_
  by_cases hz : s.size = 0
  · refine Ev.bind (g := fun j => word_Root.f j m s) (root_nil m s hs3 hz) ?_
    simp only [if_true]
    refine Ev.bind knows_ok ?_
    refine Ev.step (f := fun _ => some true) (fun j => ?_) (Ev.now _)
    simp only [eggboxlaw01_WordRoots.j0]
    rw [if_neg (by simp), if_pos ((tl_nil s).2 hz), if_pos (by rw [tl])]
    rfl
  · obtain ⟨p, hp, hR⟩ := root_ok m s (by omega) hs3 (by omega)
    have hpl := Nat.le_of_dvd (by omega) hR.dvd
    have hp0 := hR.pos
    have er := ex_size s p hpl
    refine Ev.bind (g := fun j => word_Root.f j m s) hp ?_
    simp only [if_true]
    refine Ev.bind knows_ok ?_
    have hdiv : 1 ≤ s.size / p := Nat.div_pos hpl hp0
    have hmul : s.size / p * p = s.size := Nat.div_mul_cancel hR.dvd
    refine Ev.step (f := fun j => eggboxlaw01_WordRoots.j1 j m (n : Int) s (s.extract 0 p) ((s.size / p : Nat) : Int) false) (fun j => ?_) ?_
    · simp only [eggboxlaw01_WordRoots.j0]
      rw [if_neg (by simp), if_neg (fun h => hz ((tl_nil s).1 h)), if_neg (fun h => by have := (tl_nil _).1 h; omega), er]
      have e : ((s.size / p : Nat) : Int) * (p : Int) = (s.size : Int) := by
        rw [← Int.natCast_mul, hmul]
      rw [e, w64 (by omega) (by omega)]
      generalize s.size / p = y at *
      rw [if_neg (by omega)]
      simp
    · refine Ev.step (f := fun j => eggboxlaw01_WordRoots.l0 j m (n : Int) s (s.extract 0 p) ((s.size / p : Nat) : Int) ((0 : Nat) : Int)) (fun j => ?_) (loop m s (by omega) hs3 (by omega) p n hR n1 n50 s.size 0 (by omega) (by omega))
      simp only [eggboxlaw01_WordRoots.j1]
      rfl
end Go.Proofs.Ytjkajepkeepelaa.LRoots
