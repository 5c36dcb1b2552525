/- Contract: field.Check. -/
import Derived.Test.YtpgdinpckolfpaaBaseC
import Derived.Test.YtpgdinpckolfpaaWordsB
namespace Go.Proofs.Ytpgdinpckolfpaa
open Go.RowKit

set_option maxHeartbeats 800000 in
theorem check_any (x y ww hh : Int) (A : Option Addr) (n c : Nat) (l : List Nat) (w : World) (hn : l.length = n) (hr : Rd w A (flt l)) (hb : n ≤ 140737488351232) :
    Calls Try.prog 103 #[.agg #[.int .i64 x, .int .i64 y, .int .i64 ww, .int .i64 hh, .slice A n c]] w fun e w' => e = .returned (.int .i64 (fieldE x y ww hh l)) ∧ Ext w w' := by
  have Hn := hidA hn
  clear hn
  by_cases he : regE x y ww hh = 0
  · obtain ⟨h1, h2, h3, h4, h5, _⟩ := regE_zero he
    obtain ⟨p1, p2⟩ := prod_bd (A := 512) (B := 512) (by omega : 0 ≤ ww) h2 (by omega : 0 ≤ hh) h4
    have He := hidA he
    clear he
    by_cases hl : (n : Int) = ww * hh
    · have hl' : ((n : Int) != ww * hh) = false := by simp [hl]
      have HF := hidA (fieldE_num (l := l) He.out (by rw [Hn.out]; exact hl))
      clear hl
      go_enter Try.func103, Try.ntmps103
      go_wp2_with fail
      refine (checkRegion_any _ _ _ _ _).mono ?_
      rw [He.out]
      rintro e w1 ⟨rfl, hb1⟩
      have hc1 := hb1.cell
      go_wp2_with fail
      refine (heights_any A n c l _ Hn.out ((hr.alloc _).ext hb1) hb).mono ?_
      rintro e w2 ⟨rfl, rfl⟩
      go_wp2
      go_ret
      exact ⟨ret_i HF.out.symm, ((Ext.refl _).alloc _).trans hb1⟩
    · have hl' : ((n : Int) != ww * hh) = true := by simp [hl]
      have HF := hidA (fieldE_len (l := l) He.out (by rw [Hn.out]; exact hl))
      clear hl
      go_enter Try.func103, Try.ntmps103
      go_wp2_with fail
      refine (checkRegion_any _ _ _ _ _).mono ?_
      rw [He.out]
      rintro e w1 ⟨rfl, hb1⟩
      have hc1 := hb1.cell
      go_wp2
      go_ret
      exact ⟨ret_i HF.out.symm, ((Ext.refl _).alloc _).trans hb1⟩
  · have HF := hidA (fieldE_reg (l := l) he)
    have he' : (regE x y ww hh != 0) = true := by simp [he]
    clear he
    go_enter Try.func103, Try.ntmps103
    go_wp2_with fail
    refine (checkRegion_any _ _ _ _ _).mono ?_
    rintro e w1 ⟨rfl, hb1⟩
    go_wp2
    go_ret
    exact ⟨ret_i HF.out.symm, ((Ext.refl _).alloc _).trans hb1⟩

end Go.Proofs.Ytpgdinpckolfpaa
