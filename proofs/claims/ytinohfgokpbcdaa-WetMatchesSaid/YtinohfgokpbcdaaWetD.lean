/- Contracts, joined: what Wet returns, and the law's result of it. -/
import Derived.Test.YtinohfgokpbcdaaWetC
import Derived.Test.YtinohfgokpbcdaaResB
namespace Go.Proofs.Ytinohfgokpbcdaa
open Go.RowKit

/-- the parts of what Wet returns -/
def WetR (X Y : Int) (Wn Hn N : Nat) (v : List Nat) (w' : World) (a b c1 d : Int) (vA : Option Addr) (vn vc : Nat) (ec : Int) : Prop :=
  (v.all hgtB = true ∧ a = X ∧ b = Y ∧ c1 = Wn ∧ d = Hn ∧ vn = N ∧ ec = 0 ∧ Rd w' vA (flt v)) ∨ (v.all hgtB = false ∧ a = 0 ∧ b = 0 ∧ c1 = 0 ∧ d = 0 ∧ vA = none ∧ vn = 0 ∧ vc = 0 ∧ ec = 3)
theorem WetR.ext {X Y : Int} {Wn Hn N : Nat} {v : List Nat} {w w' : World} {a b c1 d : Int} {vA : Option Addr} {vn vc : Nat} {ec : Int} (h : WetR X Y Wn Hn N v w a b c1 d vA vn vc ec) (hx : Ext w w') : WetR X Y Wn Hn N v w' a b c1 d vA vn vc ec := by
  rcases h with ⟨h1, h2, h3, h4, h5, h6, h7, h8⟩ | h
  · exact .inl ⟨h1, h2, h3, h4, h5, h6, h7, h8.ext hx⟩
  · exact .inr h
theorem Wet_one (X Y : Int) (Wn Hn N : Nat) (A B : Option Addr) (c c' : Nat) (l : List Nat) (q : List Int) (w : World) (hr : Reg X Y Wn Hn) (hN : N = Wn * Hn) (hl : l.length = N) (hV : Rd w A (flt l)) (hQ : Rd w B (intC q)) (hf : fieldE X Y Wn Hn l = 0) (hq : numsE q N 1099511627776 = 0) :
    Calls Try.prog 36 #[.agg #[.int .i64 X, .int .i64 Y, .int .i64 (Wn : Int), .int .i64 (Hn : Int), .slice A N c], .slice B N c'] w fun e w' => ∃ (a b c1 d : Int) (vA : Option Addr) (vn vc : Nat) (ec : Int), e = .returned (.tuple #[.agg #[.int .i64 a, .int .i64 b, .int .i64 c1, .int .i64 d, .slice vA vn vc], .int .i64 ec]) ∧
      WetR X Y Wn Hn N ((List.range N).map (wetF (fun j => l.getD j 0) q Wn Hn)) w' a b c1 d vA vn vc ec ∧ Ext w w' := by
  refine (Wet_ok X Y Wn Hn N A B c c' l q w hr hN hl hV hQ hf hq).mono ?_
  rintro e w' ⟨g, cap, hR, hx, ⟨h1, rfl⟩ | ⟨h1, rfl⟩⟩
  · exact ⟨_, _, _, _, _, _, _, _, rfl, .inl ⟨h1, rfl, rfl, rfl, rfl, rfl, rfl, hR⟩, hx⟩
  · exact ⟨_, _, _, _, _, _, _, _, rfl, .inr ⟨h1, rfl, rfl, rfl, rfl, rfl, rfl, rfl, rfl⟩, hx⟩
theorem result_two (X Y : Int) (Wn Hn N : Nat) (v : List Nat) (w : World) (a b c1 d : Int) (vA B : Option Addr) (vn vc c : Nat) (ec : Int) (h : WetR X Y Wn Hn N v w a b c1 d vA vn vc ec) (hn : v.length = N) (hB : Rd w B (flt v)) (hnb : N ≤ 4000000000) :
    Calls Try.prog 39 #[.agg #[.int .i64 a, .int .i64 b, .int .i64 c1, .int .i64 d, .slice vA vn vc], .int .i64 ec, .agg #[.int .i64 X, .int .i64 Y, .int .i64 (Wn : Int), .int .i64 (Hn : Int)], .slice B N c] w fun e w' => e = .returned (.bool true) ∧ Ext w w' := by
  rcases h with ⟨h1, rfl, rfl, rfl, rfl, rfl, rfl, h8⟩ | ⟨h1, rfl, rfl, rfl, rfl, rfl, rfl, rfl, rfl⟩
  · exact result_ok _ _ _ _ B vA _ c vc v w hn hB h8 hnb (numE_all h1)
  · exact result_no X Y Wn Hn B N c v w hn hB hnb (numE_not h1)
end Go.Proofs.Ytinohfgokpbcdaa
