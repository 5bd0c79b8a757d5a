/- Frames that may be, made bytes: what the laws of streams lean on. -/
import Derived.Test.YtinlemeogdnanaaStreamI
import Derived.Test.YtinlemeogdnanaaStreamA
import Derived.Test.YtinlemeogdnanaaRefFr
import Derived.Laws.MakeOwn
namespace Go.Proofs.Ytinlemeogdnanaa
open Go Go.RowKit
set_option linter.unusedVariables false
set_option linter.unusedSimpArgs false

theorem sameAd_refl (a : AdM) : sameAd a a = true := by unfold sameAd; simp
theorem sameFr_refl (f : FrM) : sameFr f f = true := by unfold sameFr; simp [sameAd_refl]
theorem dataF_may {id : Int} {d : List UInt8} (h1 : 1 ≤ id) (h2 : id ≤ 65535) (h3 : 1 ≤ d.length) (h4 : d.length ≤ 4000) : (FrM.dataF id d).may = true := by
  have e : (FrM.dataF id d).plain = FrM.dataF id d := by simp [FrM.plain, FrM.dataF, FrM.of]
  unfold FrM.may
  rw [e, sameFr_refl]
  simp [FrM.okB, FrM.dataF, FrM.of, inB, *]
  constructor <;> exact decide_eq_true (by omega)
theorem finF_may {id : Int} (h1 : 1 ≤ id) (h2 : id ≤ 65535) : (FrM.finF id).may = true := by
  have e : (FrM.finF id).plain = FrM.finF id := by simp [FrM.plain, FrM.finF, FrM.of]
  unfold FrM.may
  rw [e, sameFr_refl]
  simp [FrM.okB, FrM.finF, FrM.of, inB, *]
theorem winF_may {id n : Int} (h1 : 1 ≤ id) (h2 : id ≤ 65535) (h3 : 1 ≤ n) (h4 : n ≤ 65536) : (FrM.winF id n).may = true := by
  have e : (FrM.winF id n).plain = FrM.winF id n := by simp [FrM.plain, FrM.winF, FrM.of]
  unfold FrM.may
  rw [e, sameFr_refl]
  simp [FrM.okB, FrM.winF, FrM.of, inB, *]
theorem resetF_may {id n : Int} (h1 : 1 ≤ id) (h2 : id ≤ 65535) (h3 : 0 ≤ n) (h4 : n ≤ 255) : (FrM.resetF id n).may = true := by
  have e : (FrM.resetF id n).plain = FrM.resetF id n := by simp [FrM.plain, FrM.resetF, FrM.of]
  unfold FrM.may
  rw [e, sameFr_refl]
  simp [FrM.okB, FrM.resetF, FrM.of, inB, *]

def zeros (n : Nat) : List UInt8 := List.replicate n 0
theorem zeros_length (n : Nat) : (zeros n).length = n := by simp [zeros]
theorem make_u8 (n : Nat) (h : n ≤ 1000000) : ∀ w : World, (Instr.makeSlice 22 (.int .i64 (n : Int)) (.int .i64 (n : Int))).run Try.prog w = .ok (.slice (some ⟨w.heap.size, 0, none⟩) n n) (w.alloc (.cells (bytesC (zeros n)).toArray 5 (0, 0))) := by
  intro w
  obtain ⟨i, hi, hz, hs, hb⟩ := info_u8
  have hr := run_make (P := Try.prog) w 22 5 i _ Try.underlying22 hi hz .i64 .i64 n n (by omega) (Int.le_refl _) (by rw [hb]; omega) (by omega)
  simp only [Int.toNat_natCast] at hr
  rw [hr]
  have e : madeCells (Value.int .u8 0).cells (n * i.size) = (bytesC (zeros n)).toArray := by
    rw [hs, Nat.mul_one]
    unfold madeCells bytesC zeros Value.cells
    apply Array.ext'
    apply List.ext_getElem?
    intro j
    by_cases hj : j < n <;> simp [hj, Nat.mod_one]
  rw [e]
theorem OwnB.made {w0 w : World} {L : List Assn} {g n : Nat} (hn : n ≤ 1000000) (h : Sat w0 w (Blk g (.cells (bytesC (zeros n)).toArray 5 (0, 0)) :: L)) : Sat w0 w (OwnB 5 (.slice (some ⟨g, 0, none⟩) n n) (zeros n) :: L) := by
  unfold OwnB
  rw [zeros_length]
  exact OwnS.ofBlk h (Nat.le_refl _) (by unfold maxLen; omega) (by simp [zeros_length]) (by simp [zeros_length, List.take_of_length_le])

/-- Got of a frame that is read in whatever way. -/
theorem stream_GotV {w0 w : World} {L : List Assn} {g : Nat} {s : StM} (f : FrM) {ip d vv : Value} (hv : vv = frV f ip d) (hi : RdB w ip f.addr.ip) (hd : RdB w d f.data) (hn : f.addr.name.size ≤ maxLen) (hs : Sat w0 w (StA g s :: L)) :
    Calls Try.prog 17 #[.pointer (some ⟨g, 0, none⟩), vv] w (GotR w0 L g (s.gotD f) (s.gotL f) (s.gotK f) (s.got f)) := by
  obtain ⟨a, c, rfl, _, _, _⟩ := hi.form
  obtain ⟨a2, c2, rfl, _, _, _⟩ := hd.form
  subst hv
  exact stream_Got g s f a a2 c c2 ⟨hi, hd, hn⟩ hs
theorem ref_SameFrameV {w : World} (f g : FrM) {ip d ip2 d2 u v : Value} (hu : u = frV f ip d) (hv : v = frV g ip2 d2) (hi : RdB w ip f.addr.ip) (hd : RdB w d f.data) (hi2 : RdB w ip2 g.addr.ip) (hd2 : RdB w d2 g.data) :
    Calls Try.prog 19 #[u, v] w fun e w' => e = .returned (.bool (sameFr f g)) ∧ Below w.heap.size w w' := by
  obtain ⟨a, c, rfl, _, _, _⟩ := hi.form
  obtain ⟨a2, c2, rfl, _, _, _⟩ := hd.form
  obtain ⟨a3, c3, rfl, _, _, _⟩ := hi2.form
  obtain ⟨a4, c4, rfl, _, _, _⟩ := hd2.form
  subst hu
  subst hv
  exact ref_SameFrame f g a a3 a2 a4 c c3 c2 c4 hi hi2 hd hd2
theorem RdB.nilI (w : World) : RdB w (.slice none 0 0) [] := OwnB.rd (t := 5) (OwnB.nilI (Sat.refl w))
end Go.Proofs.Ytinlemeogdnanaa
