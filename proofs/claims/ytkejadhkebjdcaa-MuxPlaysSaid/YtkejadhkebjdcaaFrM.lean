/- Frames and addresses as data, and as pieces of the heap; general but for the number of the bytes' type. -/
import Derived.Test.YtkejadhkebjdcaaOwn
namespace Go.Proofs.Ytkejadhkebjdcaa
open Go Go.RowKit
set_option linter.unusedVariables false
set_option linter.unusedSimpArgs false

structure AdM where
  kind : Int
  ip : List UInt8
  name : ByteArray
  port : Int
structure FrM where
  kind : Int
  stream : Int
  code : Int
  n : Int
  addr : AdM
  data : List UInt8

def AdM.zero : AdM := ⟨0, [], ByteArray.empty, 0⟩
/-- A frame's cells. -/
def frC (f : FrM) (ip d : Value) : List Value := [.int .i64 f.kind, .int .i64 f.stream, .int .i64 f.code, .int .i64 f.n, .int .i64 f.addr.kind, ip, .string f.addr.name, .int .i64 f.addr.port, d]
theorem frC_length (f : FrM) (ip d : Value) : (frC f ip d).length = 9 := rfl

theorem frC_one (f : FrM) {ip d : Value} (h1 : ip.oneCell' = true) (h2 : d.oneCell' = true) : ∀ u ∈ frC f ip d, u.oneCell' = true := by
  intro u hu
  simp only [frC, List.mem_cons, List.not_mem_nil, or_false] at hu
  rcases hu with rfl | rfl | rfl | rfl | rfl | rfl | rfl | rfl | rfl <;> first | assumption | rfl
/-- A frame as its cells, with bytes of its own. -/
def FrE (f : FrM) (cs : List Value) : Assn := fun h => ∃ x : Value × Value, cs = frC f x.1 x.2 ∧ Star [OwnB 5 x.1 f.addr.ip, OwnB 5 x.2 f.data] h
abbrev FramesA (v : Value) (l : List FrM) : Assn := OwnL 43 9 FrE v l

section
variable {w0 w : World} {L : List Assn}
theorem FrE.opn {f : FrM} {cs : List Value} (h : Sat w0 w (FrE f cs :: L)) : ∃ ip d, cs = frC f ip d ∧ Sat w0 w (OwnB 5 ip f.addr.ip :: OwnB 5 d f.data :: L) := by
  obtain ⟨⟨ip, d⟩, h1⟩ := Sat.ex (F := fun (x : Value × Value) h => cs = frC f x.1 x.2 ∧ Star [OwnB 5 x.1 f.addr.ip, OwnB 5 x.2 f.data] h) h
  obtain ⟨h2, h3⟩ := Sat.pure (p := cs = frC f ip d) (A := Star _) h1
  exact ⟨ip, d, h2, Sat.unstar h3⟩
theorem FrE.shut {f : FrM} {ip d : Value} (h : Sat w0 w (OwnB 5 ip f.addr.ip :: OwnB 5 d f.data :: L)) : Sat w0 w (FrE f (frC f ip d) :: L) :=
  (Sat.star (L1 := [_, _]) h).imp (fun _ hh => ⟨(ip, d), rfl, hh⟩)
end

/-- Element i of frames that are owned, read. -/
structure RdFr (w : World) (b o : Nat) (f : FrM) (ip d : Value) : Prop where
  cell : ∀ j u, (frC f ip d)[j]? = some u → w.cell? ⟨b, o + j, none⟩ = some u
  ip : RdB w ip f.addr.ip
  data : RdB w d f.data
theorem FramesA.at {w0 w : World} {L : List Assn} {v : Value} {l : List FrM} (h : Sat w0 w (FramesA v l :: L)) {i : Nat} {f : FrM} (hi : l[i]? = some f) :
    ∃ b off cap ip d, v = .slice (some ⟨b, off, none⟩) l.length cap ∧ RdFr w b (off + i * 9) f ip d := by
  obtain ⟨b, off, cap, cs, L', rfl, _, _, hc, h1⟩ := OwnL.at h hi
  obtain ⟨ip, d, rfl, h2⟩ := FrE.opn h1
  exact ⟨b, off, cap, ip, d, rfl, hc, OwnB.rd h2, OwnB.rd h2.drop⟩
theorem FramesA.at2 {w0 w : World} {L : List Assn} {a : Option Addr} {n cap : Nat} {l : List FrM} (h : Sat w0 w (FramesA (.slice a n cap) l :: L)) {i : Nat} {f : FrM} (hi : l[i]? = some f) :
    ∃ b off ip d, a = some ⟨b, off, none⟩ ∧ RdFr w b (off + i * 9) f ip d := by
  obtain ⟨b, off, cap, ip, d, hv, h1⟩ := FramesA.at h hi
  injection hv with ha
  exact ⟨b, off, ip, d, ha, h1⟩
theorem RdFr.nine {w : World} {b o : Nat} {f : FrM} {ip d : Value} (h : RdFr w b o f ip d) :
    w.cell? ⟨b, o, none⟩ = some (.int .i64 f.kind) ∧ w.cell? ⟨b, o + 1, none⟩ = some (.int .i64 f.stream) ∧ w.cell? ⟨b, o + 2, none⟩ = some (.int .i64 f.code) ∧ w.cell? ⟨b, o + 3, none⟩ = some (.int .i64 f.n) ∧
    w.cell? ⟨b, o + 4, none⟩ = some (.int .i64 f.addr.kind) ∧ w.cell? ⟨b, o + 5, none⟩ = some ip ∧ w.cell? ⟨b, o + 6, none⟩ = some (.string f.addr.name) ∧ w.cell? ⟨b, o + 7, none⟩ = some (.int .i64 f.addr.port) ∧ w.cell? ⟨b, o + 8, none⟩ = some d :=
  ⟨h.cell 0 _ rfl, h.cell 1 _ rfl, h.cell 2 _ rfl, h.cell 3 _ rfl, h.cell 4 _ rfl, h.cell 5 _ rfl, h.cell 6 _ rfl, h.cell 7 _ rfl, h.cell 8 _ rfl⟩
theorem RdFr.mono {w w' : World} {b o : Nat} {f : FrM} {ip d : Value} (h : RdFr w b o f ip d) (hb : Below w.heap.size w w') : RdFr w' b o f ip d :=
  ⟨fun j u hj => (hb.cell (p := ⟨b, o + j, none⟩) (World.block_lt_of_cell? w _ (h.cell j u hj))).trans (h.cell j u hj), h.ip.mono hb, h.data.mono hb⟩

/-- A frame of a kind and a stream, nothing else. -/
def FrM.of (kind stream : Int) : FrM := ⟨kind, stream, 0, 0, AdM.zero, []⟩
def FrM.dataF (id : Int) (d : List UInt8) : FrM := { FrM.of 3 id with data := d }
def FrM.finF (id : Int) : FrM := FrM.of 4 id

theorem RdFr.piece {w : World} {b o : Nat} {id : Int} {pc : List UInt8} {ip d : Value} (h : RdFr w b o (FrM.dataF id pc) ip d) :
    ∃ ai ci ad cd, ip = .slice ai 0 ci ∧ d = .slice ad pc.length cd ∧ RdB w (.slice ad pc.length cd) pc ∧
    w.cell? ⟨b, o, none⟩ = some (.int .i64 3) ∧ w.cell? ⟨b, o + 1, none⟩ = some (.int .i64 id) ∧ w.cell? ⟨b, o + 2, none⟩ = some (.int .i64 0) ∧ w.cell? ⟨b, o + 3, none⟩ = some (.int .i64 0) ∧
    w.cell? ⟨b, o + 4, none⟩ = some (.int .i64 0) ∧ w.cell? ⟨b, o + 5, none⟩ = some (.slice ai 0 ci) ∧ w.cell? ⟨b, o + 6, none⟩ = some (.string ByteArray.empty) ∧ w.cell? ⟨b, o + 7, none⟩ = some (.int .i64 0) ∧ w.cell? ⟨b, o + 8, none⟩ = some (.slice ad pc.length cd) := by
  obtain ⟨ai, ci, rfl, _, _, _⟩ := h.ip.form
  obtain ⟨ad, cd, rfl, _, _, _⟩ := h.data.form
  exact ⟨ai, ci, ad, cd, rfl, rfl, h.data, h.nine⟩
theorem RdFr.fin {w : World} {b o : Nat} {id : Int} {ip d : Value} (h : RdFr w b o (FrM.finF id) ip d) :
    ∃ ai ci ad cd, ip = .slice ai 0 ci ∧ d = .slice ad 0 cd ∧
    w.cell? ⟨b, o, none⟩ = some (.int .i64 4) ∧ w.cell? ⟨b, o + 1, none⟩ = some (.int .i64 id) ∧ w.cell? ⟨b, o + 2, none⟩ = some (.int .i64 0) ∧ w.cell? ⟨b, o + 3, none⟩ = some (.int .i64 0) ∧
    w.cell? ⟨b, o + 4, none⟩ = some (.int .i64 0) ∧ w.cell? ⟨b, o + 5, none⟩ = some (.slice ai 0 ci) ∧ w.cell? ⟨b, o + 6, none⟩ = some (.string ByteArray.empty) ∧ w.cell? ⟨b, o + 7, none⟩ = some (.int .i64 0) ∧ w.cell? ⟨b, o + 8, none⟩ = some (.slice ad 0 cd) := by
  obtain ⟨ai, ci, rfl, _, _, _⟩ := h.ip.form
  obtain ⟨ad, cd, rfl, _, _, _⟩ := h.data.form
  exact ⟨ai, ci, ad, cd, rfl, rfl, h.nine⟩

/-- Bytes in pieces of a thousand. -/
def chunk (l : List UInt8) : List (List UInt8) :=
  if h : l.length = 0 then [] else l.take 1000 :: chunk (l.drop 1000)
termination_by l.length
decreasing_by simp; omega
theorem chunk_nil : chunk [] = [] := by rw [chunk]; simp
theorem chunk_cons {l : List UInt8} (h : 0 < l.length) : chunk l = l.take 1000 :: chunk (l.drop 1000) := by
  rw [chunk, dif_neg (by omega)]
end Go.Proofs.Ytkejadhkebjdcaa
