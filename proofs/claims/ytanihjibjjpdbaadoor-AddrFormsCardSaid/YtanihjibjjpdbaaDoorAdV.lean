/- addr.Text for every address: its text in plain lists. -/
import Derived.Test.YtanihjibjjpdbaaDoorHsx
import Derived.Test.YtanihjibjjpdbaaDoorAdC
namespace Go.Proofs.YtanihjibjjpdbaaDoor
open Go Go.RowKit
set_option linter.unusedVariables false
set_option linter.unusedSimpArgs false
/-- The host's text. -/
def hostL (a : AdM) : List UInt8 := if a.kind = 1 then ip4 a.ip else if a.kind = 4 then ip6 a.ip else a.name.data.toList
def txtA (a : AdM) : List UInt8 := if a.may then hostL a ++ [58] ++ Lib.itoa a.port else []
theorem ip6_len (ip : List UInt8) : (ip6 ip).length ≤ 41 := by
  rw [ip6_as]
  have := join8_len ip
  generalize Lib.join ((hex8 ip).map (·.data.toList)) (ByteArray.mk #[58]).data.toList = j at *
  simp only [List.length_append, List.length_singleton]
  omega
section
variable {w0 w : World} {L : List Assn}
theorem host_is (a : AdM) (x : Option Addr) (c : Nat) (hm : a.may = true) (ht : TabOk w0) (hz : TzOk w0) (hr0 : RdB w0 (.slice x a.ip.length c) a.ip) : HostIs w0 L a x c (hostL a) := by
  obtain ⟨_, _, h⟩ := (may_iff a).1 hm
  have hp : 0 < w0.heap.size := ht.pos
  unfold hostL
  rcases h with ⟨hk, h4, _⟩ | ⟨hk, h16, _⟩ | ⟨hk, _, _⟩
  · rw [if_pos hk]
    exact host4_is a x c hk h4 ht hp (fun W L' hs => hr0.mono hs.below)
  · rw [if_neg (by omega), if_pos hk]
    intro W L' hs
    obtain ⟨b, o, cap, he, hb, hc, hm, hcells⟩ := (hr0.mono hs.below).at (i := 0) (by omega)
    injection he with e1 e2 e3
    subst e1 e3
    rw [h16] at hc hcells ⊢
    refine (callsIn_wide.1 (addr_host6_in 4 (by omega) a b o c hc (by simp [hk]) (by simp [hk]) W a.ip h16 hcells hb (hz.later hs.below))).mono ?_
    rintro e W' ⟨rfl, hB⟩
    exact ⟨rfl, hs.under hB⟩
  · rw [if_neg (by omega), if_neg (by omega)]
    exact fun W L' hs => addr_host3 a x c hk hs
theorem hostL_len {a : AdM} (hm : a.may = true) : (hostL a).length ≤ 1000 := by
  obtain ⟨_, _, h⟩ := (may_iff a).1 hm
  unfold hostL
  rcases h with ⟨hk, h4, _⟩ | ⟨hk, h16, _⟩ | ⟨hk, h, _⟩
  · rw [if_pos hk]
    have := ip4_len h4
    omega
  · rw [if_neg (by omega), if_pos hk]
    have := ip6_len a.ip
    omega
  · rw [if_neg (by omega), if_neg (by omega)]
    have := nameOk_len h
    omega
theorem addr_Text (a : AdM) (x : Option Addr) (c : Nat) (hnn : a.name.size ≤ maxLen) (ht : TabOk w0) (hz : TzOk w0) (hs : Sat w0 w L) (hr0 : RdB w0 (.slice x a.ip.length c) a.ip) :
    Calls Tryd.prog 12 #[.agg #[.int .i64 a.kind, .slice x a.ip.length c, .string a.name, .int .i64 a.port]] w fun e w' => e = .returned (.string (strOf (txtA a))) ∧ Sat w0 w' L := by
  unfold txtA
  cases hm : a.may
  · exact addr_Text_no a x c hnn hr0.len hm hs
  · simp only [if_true]
    exact addr_Text_may a x c hnn hr0.len hm ht ht.pos hs (host_is a x c hm ht hz hr0) (hostL_len hm)
end
theorem sameAd_iff {a b : AdM} : sameAd a b = true ↔ a = b := by
  constructor
  · intro h
    unfold sameAd at h
    simp only [Bool.and_eq_true, beq_iff_eq] at h
    obtain ⟨⟨⟨h1, h2⟩, h3⟩, h4⟩ := h
    have h5 : a.name = b.name := by rw [← strOf_data a.name, ← strOf_data b.name, h3]
    cases a; cases b
    simp_all
  · rintro rfl
    exact sameAd_self a
theorem enc_iff {a b : AdM} (ha : a.may = true) (hb : b.may = true) : a.enc = b.enc ↔ a = b := by
  constructor
  · intro h
    have h1 := dec_enc ha []
    have h2 := dec_enc hb []
    rw [h] at h1
    rw [h1] at h2
    exact (Prod.mk.inj (Prod.mk.inj h2).2).1
  · rintro rfl; rfl
end Go.Proofs.YtanihjibjjpdbaaDoor
