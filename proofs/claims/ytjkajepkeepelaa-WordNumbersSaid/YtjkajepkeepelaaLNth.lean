/- Nth: the word of a number. -/
import Derived.Test.YtjkajepkeepelaaLRank
set_option linter.unusedVariables false
set_option linter.unusedSimpArgs false
namespace Go.Proofs.Ytjkajepkeepelaa.LNth
open Go.RowKit Go.Proofs.YtjkajepkeepelaaW.PrintWords Go.Proofs.YtjkajepkeepelaaW.PrintLast Go.Proofs.YtjkajepkeepelaaW.PrintMore
open Go.Proofs.Ytjkajepkeepelaa Go.Proofs.Ytjkajepkeepelaa.HMath Go.Proofs.Ytjkajepkeepelaa.HBord Go.Proofs.Ytjkajepkeepelaa.HOver Go.Proofs.Ytjkajepkeepelaa.HComp Go.Proofs.Ytjkajepkeepelaa.HRoots Go.Proofs.Ytjkajepkeepelaa.LRoots Go.Proofs.Ytjkajepkeepelaa.HNum Go.Proofs.Ytjkajepkeepelaa.LRank
open PW

def lets (l : List Nat) : List Int := l.map (fun (d : Nat) => 96 + (d : Int))

theorem nth_loop (b : Nat) (hb1 : 1 ≤ b) (hb8 : b ≤ 8) : ∀ (f n : Nat) (xs : List Int), n ≤ f → n < 18446744073709551616 → xs.length ≤ 4096 →
    Ev (fun j => word_Nth.l0 j (n : Int) xs (b : Int)) (if xs.length + (digs b f n).length ≤ 4096 then (rv (strOfNums (xs ++ lets (digs b f n))), 0) else ((⟨#[]⟩ : ByteArray), 6))
  | f, 0, xs, _, _, hx => by
    have hd : digs b f 0 = [] := by cases f <;> rfl
    rw [hd, if_pos (by simpa using hx)]
    refine Ev.step (f := fun j => (word_turned.f j (strOfNums xs)).bind fun t122 => (some (t122, 0))) (fun j => by simp only [word_Nth.l0]; rw [if_neg (by omega)]) ?_
    have ht := turned_ok (strOfNums xs) (by rw [strOf_size]; omega)
    refine Ev.bind ht ?_
    simp only [lets, List.map_nil, List.append_nil]
    exact Ev.now _
  | 0, n + 1, xs, h, _, _ => by omega
  | f + 1, n + 1, xs, h, hn, hx => by
    have hd : digs b (f + 1) (n + 1) = (n % b + 1) :: digs b f (n / b) := by
      simp only [digs]
      rw [if_neg (by omega), Nat.add_sub_cancel]
    rw [hd]
    have hw1 : IntKind.u64.wrap (((n + 1 : Nat) : Int) - 1) = (n : Int) := by
      rw [HRank.u64_in _ (by omega) (by omega)]; omega
    have hq : Int.tdiv (n : Int) (b : Int) = ((n / b : Nat) : Int) := rfl
    have hm : Int.tmod (n : Int) (b : Int) = ((n % b : Nat) : Int) := rfl
    have hle : n / b ≤ n := Nat.div_le_self _ _
    have hlt := Nat.mod_lt n (show 0 < b by omega)
    generalize hq' : n / b = q at *
    generalize hm' : n % b = m at *
    by_cases hfull : xs.length = 4096
    · rw [if_neg (by rw [List.length_cons]; omega)]
      refine Ev.step (f := fun j => some ((⟨#[]⟩ : ByteArray), 6)) (fun j => by simp only [word_Nth.l0]; rw [if_pos (by omega), if_pos (by omega)]) ?_
      exact Ev.now _
    · have ih := nth_loop b hb1 hb8 f q (xs ++ [97 + (m : Int)]) (by omega) (by omega) (by simp; omega)
      have e1 : xs ++ [97 + (m : Int)] ++ lets (digs b f q) = xs ++ lets ((m + 1) :: digs b f q) := by
        rw [List.append_assoc]
        congr 1
        show ([97 + (m : Int)] : List Int) ++ lets (digs b f q) = (96 + ((m + 1 : Nat) : Int)) :: lets (digs b f q)
        rw [List.singleton_append]
        congr 1
        omega
      have e2 : (xs ++ [97 + (m : Int)]).length + (digs b f q).length = xs.length + ((m + 1) :: digs b f q).length := by
        rw [List.length_append, List.length_cons, List.length_cons, List.length_nil]; omega
      rw [e1, e2] at ih
      refine Ev.step (f := fun j => word_Nth.l0 j (q : Int) (xs ++ [97 + (m : Int)]) (b : Int)) (fun j => by
        simp only [word_Nth.l0]
        rw [if_pos (by omega), if_neg (by omega), if_neg (by omega), if_pos (by omega), hw1, hq, hm, HRank.u64_in _ (by omega) (by omega), HRank.u64_in _ (by omega) (by omega), Int.emod_eq_of_lt (by omega) (by omega)]) ih

def wd (k n : Nat) : ByteArray := rv (strOfNums (lets (digs k n n)))

theorem nth_ok (k n : Nat) (h1 : 1 ≤ k) (h8 : k ≤ 8) (hn : n < 18446744073709551616) : Ev (fun j => word_Nth.f j (k : Int) (n : Int)) (if (digs k n n).length ≤ 4096 then (wd k n, 0) else ((⟨#[]⟩ : ByteArray), 6)) := by
  have hc : HCheck.chk (k : Int) (⟨#[]⟩ : ByteArray) = 0 := chk_ok (by omega) (by omega) (fun b hb => by simp at hb)
  have h := nth_loop k h1 h8 n n [] (Nat.le_refl _) hn (by simp)
  simp only [List.length_nil, Nat.zero_add, List.nil_append] at h
  unfold word_Nth.f word_Check.f
  simp only [Option.bind_some, if_pos hc]
  rw [HRank.u64_in _ (by omega) (by omega)]
  exact h

theorem wd_ok (k n : Nat) (h1 : 1 ≤ k) (h8 : k ≤ 8) : HCheck.chk (k : Int) (wd k n) = 0 ∧ val k (wd k n) = n ∧ (wd k n).size = (digs k n n).length := by
  obtain ⟨v, d⟩ := digs_val k h1 n n (Nat.le_refl _)
  generalize hD : digs k n n = D at *
  have hb : (wd k n).data.toList = (D.map (fun d => UInt8.ofNat (96 + d))).reverse := by
    unfold wd
    rw [hD, rv_list, strOf_bytes, lets, List.map_map]
    congr 1
  have e : ∀ d, d ∈ D → (UInt8.ofNat (96 + d)).toNat = 96 + d := fun x hx => by
    have := d x hx
    rw [UInt8.toNat_ofNat']
    omega
  refine ⟨chk_ok (by omega) (by omega) (fun b hb2 => ?_), ?_, ?_⟩
  · rw [hb, List.mem_reverse, List.mem_map] at hb2
    obtain ⟨x, hx, rfl⟩ := hb2
    have := d x hx
    rw [e x hx]
    omega
  · unfold val dg
    rw [hb, List.map_reverse, List.map_map]
    have : D.map ((fun b : UInt8 => b.toNat - 96) ∘ fun d => UInt8.ofNat (96 + d)) = D := by
      conv => rhs; rw [← List.map_id D]
      exact List.map_congr_left (fun x hx => by simp only [Function.comp]; rw [e x hx]; show 96 + x - 96 = x; omega)
    rw [this, v]
  · unfold wd
    rw [rv_size, strOf_size, lets, List.length_map, hD]
end Go.Proofs.Ytjkajepkeepelaa.LNth
