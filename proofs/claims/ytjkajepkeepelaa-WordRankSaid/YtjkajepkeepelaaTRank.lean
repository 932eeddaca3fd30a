/- WordRank: every input goes one of the walk's paths. -/
import Derived.Test.YtjkajepkeepelaaWRank
set_option linter.unusedVariables false
set_option linter.unusedSimpArgs false
namespace Go.Proofs.Ytjkajepkeepelaa.TRank
open Go.RowKit Go.Proofs.YtjkajepkeepelaaW.PrintWords Go.Proofs.YtjkajepkeepelaaW.PrintLast Go.Proofs.YtjkajepkeepelaaW.PrintMore
open Go.Proofs.Ytjkajepkeepelaa Go.Proofs.Ytjkajepkeepelaa.HMath Go.Proofs.Ytjkajepkeepelaa.HBord Go.Proofs.Ytjkajepkeepelaa.HOver Go.Proofs.Ytjkajepkeepelaa.HComp Go.Proofs.Ytjkajepkeepelaa.HRoots Go.Proofs.Ytjkajepkeepelaa.LRoots Go.Proofs.Ytjkajepkeepelaa.HNum Go.Proofs.Ytjkajepkeepelaa.LRank Go.Proofs.Ytjkajepkeepelaa.LNth Go.Proofs.Ytjkajepkeepelaa.WRank

theorem ord3 (u v : ByteArray) : ord u v = 0 ∨ ord u v = -1 ∨ ord u v = 1 := by
  have := ord_range u v
  omega

/-- What Next gives: a word one above, or no room. -/
theorem next3 (k : Nat) (u : ByteArray) (hu : u.size ≤ 140737488351232) (hc : HCheck.chk (k : Int) u = 0) :
    (HNext.g (k : Int) u = some (⟨#[]⟩, 6) ∧ 4096 ≤ u.size) ∨ ∃ t, HNext.g (k : Int) u = some (t, 0) ∧ HCheck.chk (k : Int) t = 0 ∧ val k t = val k u + 1 := by
  have h1 := next_len k u
  obtain ⟨h2, h3⟩ := next_val k u hc
  unfold HNext.g HNext.f
  rw [if_pos hu, if_pos hc]
  generalize HNext.nxt (97 + (k : Int) - 1) (bytesOf u) = r at *
  by_cases hl : r.length > 4096
  · rw [if_pos hl]
    exact .inl ⟨rfl, by omega⟩
  · rw [if_neg hl]
    exact .inr ⟨_, rfl, h2, h3⟩

theorem rank2 (k : Nat) (u : ByteArray) (hc : HCheck.chk (k : Int) u = 0) : (HRank.f (k : Int) u = some (((val k u : Nat) : Int), (0 : Int)) ∧ val k u < 18446744073709551616) ∨ (HRank.f (k : Int) u = some (0, 11) ∧ 18446744073709551616 ≤ val k u) := by
  rw [rank_ok k u hc]
  unfold rank
  by_cases h : val k u < 18446744073709551616
  · rw [if_pos h]; exact .inl ⟨rfl, h⟩
  · rw [if_neg h]; exact .inr ⟨rfl, by omega⟩

theorem total (k0 : Int) (x y : ByteArray) (n : Int) (hn0 : 0 ≤ n) (hn1 : n < 18446744073709551616) (hx : x.size ≤ 140737488351232) (hy : y.size ≤ 140737488351232) (w : World) :
    Calls Try.prog 9 #[.int .i64 k0, .string x, .string y, .int .u64 n] w fun e w' => e = .returned (.bool true) ∧ Below w.heap.size w w' := by
  obtain ⟨l1, l8⟩ := letters_ok k0
  have hk0 : PW.eggboxlaw01_letters.f k0 = some (wrap64 (1 + (Int.tmod (wrap64 ((Int.tmod k0 8) + 8)) 8))) := rfl
  generalize wrap64 (1 + (Int.tmod (wrap64 ((Int.tmod k0 8) + 8)) 8)) = kz at *
  obtain ⟨k, rfl⟩ : ∃ k : Nat, kz = (k : Int) := ⟨kz.toNat, by omega⟩
  obtain ⟨m, rfl⟩ : ∃ m : Nat, n = (m : Int) := ⟨n.toNat, by omega⟩
  obtain ⟨u, ⟨K1, hu⟩, hus, huc⟩ := over_ok (k : Int) l1 l8 x hx
  obtain ⟨v, ⟨K2, hv⟩, hvs, hvc⟩ := over_ok (k : Int) l1 l8 y hy
  obtain ⟨K3, hN⟩ := nth_ok k m (by omega) (by omega) (by omega)
  obtain ⟨K4, hC⟩ := comp_good (k : Int) u v huc hvc
  obtain ⟨K5, hkn⟩ := knows_ok
  have hu := hu (K1 + K2 + K3 + K4 + K5) (by omega)
  have hv := hv (K1 + K2 + K3 + K4 + K5) (by omega)
  have hN := hN (K1 + K2 + K3 + K4 + K5) (by omega)
  have hC := hC (K1 + K2 + K3 + K4 + K5) (by omega)
  have hkn := hkn (K1 + K2 + K3 + K4 + K5) (by omega)
  generalize K1 + K2 + K3 + K4 + K5 = K at *
  obtain ⟨o1, o2, o3⟩ := ord_val huc hvc
  have hus' : u.size ≤ 140737488351232 := by omega
  have e0 : (⟨#[]⟩ : ByteArray) = ⟨#[]⟩ := rfl
  by_cases hl : (digs k m m).length ≤ 4096
  · rw [if_pos hl] at hN
    obtain ⟨q1, q2, _⟩ := wd_ok k m (by omega) (by omega)
    have hR : HRank.f (k : Int) (wd k m) = some ((m : Int), 0) := by
      rcases rank2 k _ q1 with ⟨r1, r2⟩ | ⟨r1, r2⟩
      · rw [r1, q2]
      · omega
    generalize wd k m = wn at *
    rcases rank2 k u huc with ⟨a1, a2⟩ | ⟨a1, a2⟩
    · rcases rank2 k v hvc with ⟨b1, b2⟩ | ⟨b1, b2⟩
      · rcases next3 k u hus' huc with ⟨t1, t2⟩ | ⟨t, t1, t2, t3⟩
        · rcases ord3 u v with hc | hc | hc
          · rw [hc] at hC
            have := o1 hc
            rw [← this] at b1
            exact pAn0 K k0 k x y u v wn ⟨#[]⟩ m _ 0 0 0 0 0 6 0 hk0 hu hv hN hR a1 b1 hC hkn (by simp) t1 rfl t2 w
          · rw [hc] at hC
            exact pAnm K k0 k x y u v wn ⟨#[]⟩ m _ _ 0 0 0 0 6 0 hk0 hu hv hN hR a1 b1 hC hkn (by have := o2 (by omega); omega) t1 rfl t2 w
          · rw [hc] at hC
            exact pAnp K k0 k x y u v wn ⟨#[]⟩ m _ _ 0 0 0 0 6 0 hk0 hu hv hN hR a1 b1 hC hkn (by have := o3 (by omega); omega) t1 rfl t2 w
        · rcases rank2 k t t2 with ⟨d1, d2⟩ | ⟨d1, d2⟩
          · have hd : ((val k t : Nat) : Int) = IntKind.u64.wrap (((val k u : Nat) : Int) + 1) := by
              rw [HRank.u64_in _ (by omega) (by omega)]; omega
            rcases ord3 u v with hc | hc | hc
            · rw [hc] at hC
              have := o1 hc
              rw [← this] at b1
              exact pAk0 K k0 k x y u v wn t m _ 0 0 0 0 _ 0 0 hk0 hu hv hN hR a1 b1 hC hkn (by simp) t1 d1 hd w
            · rw [hc] at hC
              exact pAkm K k0 k x y u v wn t m _ _ 0 0 0 _ 0 0 hk0 hu hv hN hR a1 b1 hC hkn (by have := o2 (by omega); omega) t1 d1 hd w
            · rw [hc] at hC
              exact pAkp K k0 k x y u v wn t m _ _ 0 0 0 _ 0 0 hk0 hu hv hN hR a1 b1 hC hkn (by have := o3 (by omega); omega) t1 d1 hd w
          · have hu1 : val k u = 18446744073709551615 := by omega
            rw [hu1] at a1 o1 o2 o3
            rcases ord3 u v with hc | hc | hc
            · rw [hc] at hC
              have := o1 hc
              rw [← this] at b1
              exact pAj0 K k0 k x y u v wn t m 0 0 0 0 0 _ 0 _ hk0 hu hv hN hR a1 b1 hC hkn (by simp) t1 d1 rfl w
            · rw [hc] at hC
              exact pAjm K k0 k x y u v wn t m 0 _ 0 0 0 _ 0 _ hk0 hu hv hN hR a1 b1 hC hkn (by have := o2 (by omega); omega) t1 d1 rfl w
            · rw [hc] at hC
              exact pAjp K k0 k x y u v wn t m 0 _ 0 0 0 _ 0 _ hk0 hu hv hN hR a1 b1 hC hkn (by have := o3 (by omega); omega) t1 d1 rfl w
      · exact pAg K k0 k x y u v wn ⟨#[]⟩ m _ _ 0 _ _ 0 0 0 hk0 hu hv hN hR a1 b1 hC hkn rfl w
    · rcases rank2 k v hvc with ⟨b1, b2⟩ | ⟨b1, b2⟩
      · exact pAf K k0 k x y u v wn ⟨#[]⟩ m _ _ _ _ _ 0 0 0 hk0 hu hv hN hR a1 b1 hC hkn rfl w
      · exact pAf K k0 k x y u v wn ⟨#[]⟩ m _ _ _ _ _ 0 0 0 hk0 hu hv hN hR a1 b1 hC hkn rfl w
  · rw [if_neg hl] at hN
    obtain rfl : k = 1 := by
      by_cases h2 : 2 ≤ k
      · have := digs_short k h2 m m (Nat.le_refl _) (by omega)
        omega
      · omega
    generalize (⟨#[]⟩ : ByteArray) = wn at hN
    rw [show ((1 : Nat) : Int) = 1 from rfl] at *
    have a0 := rank2 1 u huc
    have b0 := rank2 1 v hvc
    have t0 := next3 1 u hus' huc
    rw [show ((1 : Nat) : Int) = 1 from rfl] at a0 b0 t0
    rcases a0 with ⟨a1, a2⟩ | ⟨a1, a2⟩
    · rcases b0 with ⟨b1, b2⟩ | ⟨b1, b2⟩
      · rcases t0 with ⟨t1, t2⟩ | ⟨t, t1, t2, t3⟩
        · rcases ord3 u v with hc | hc | hc
          · rw [hc] at hC
            have := o1 hc
            rw [← this] at b1
            exact pBn0 K k0 0 x y u v wn ⟨#[]⟩ m _ 0 0 0 0 0 6 0 hk0 hu hv hN a1 b1 hC hkn (by simp) t1 rfl t2 w
          · rw [hc] at hC
            exact pBnm K k0 0 x y u v wn ⟨#[]⟩ m _ _ 0 0 0 0 6 0 hk0 hu hv hN a1 b1 hC hkn (by have := o2 (by omega); omega) t1 rfl t2 w
          · rw [hc] at hC
            exact pBnp K k0 0 x y u v wn ⟨#[]⟩ m _ _ 0 0 0 0 6 0 hk0 hu hv hN a1 b1 hC hkn (by have := o3 (by omega); omega) t1 rfl t2 w
        · have d0 := rank2 1 t t2
          rw [show ((1 : Nat) : Int) = 1 from rfl] at d0
          rcases d0 with ⟨d1, d2⟩ | ⟨d1, d2⟩
          · have hd : ((val 1 t : Nat) : Int) = IntKind.u64.wrap (((val 1 u : Nat) : Int) + 1) := by
              rw [HRank.u64_in _ (by omega) (by omega)]; omega
            rcases ord3 u v with hc | hc | hc
            · rw [hc] at hC
              have := o1 hc
              rw [← this] at b1
              exact pBk0 K k0 0 x y u v wn t m _ 0 0 0 0 _ 0 0 hk0 hu hv hN a1 b1 hC hkn (by simp) t1 d1 hd w
            · rw [hc] at hC
              exact pBkm K k0 0 x y u v wn t m _ _ 0 0 0 _ 0 0 hk0 hu hv hN a1 b1 hC hkn (by have := o2 (by omega); omega) t1 d1 hd w
            · rw [hc] at hC
              exact pBkp K k0 0 x y u v wn t m _ _ 0 0 0 _ 0 0 hk0 hu hv hN a1 b1 hC hkn (by have := o3 (by omega); omega) t1 d1 hd w
          · have hu1 : val 1 u = 18446744073709551615 := by omega
            rw [hu1] at a1 o1 o2 o3
            rcases ord3 u v with hc | hc | hc
            · rw [hc] at hC
              have := o1 hc
              rw [← this] at b1
              exact pBj0 K k0 0 x y u v wn t m 0 0 0 0 0 _ 0 _ hk0 hu hv hN a1 b1 hC hkn (by simp) t1 d1 rfl w
            · rw [hc] at hC
              exact pBjm K k0 0 x y u v wn t m 0 _ 0 0 0 _ 0 _ hk0 hu hv hN a1 b1 hC hkn (by have := o2 (by omega); omega) t1 d1 rfl w
            · rw [hc] at hC
              exact pBjp K k0 0 x y u v wn t m 0 _ 0 0 0 _ 0 _ hk0 hu hv hN a1 b1 hC hkn (by have := o3 (by omega); omega) t1 d1 rfl w
      · exact pBg K k0 0 x y u v wn ⟨#[]⟩ m _ _ 0 _ _ 0 0 0 hk0 hu hv hN a1 b1 hC hkn rfl w
    · rcases b0 with ⟨b1, b2⟩ | ⟨b1, b2⟩
      · exact pBf K k0 0 x y u v wn ⟨#[]⟩ m _ _ _ _ _ 0 0 0 hk0 hu hv hN a1 b1 hC hkn rfl w
      · exact pBf K k0 0 x y u v wn ⟨#[]⟩ m _ _ _ _ _ 0 0 0 hk0 hu hv hN a1 b1 hC hkn rfl w
end Go.Proofs.Ytjkajepkeepelaa.TRank
