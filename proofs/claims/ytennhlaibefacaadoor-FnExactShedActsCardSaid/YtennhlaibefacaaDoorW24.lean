/- Messages: right ones. -/
import Derived.Test.YtennhlaibefacaaDoorW23
namespace Go.Proofs.YtennhlaibefacaaDoor
open Go.RowKit Go.Rx
set_option linter.unusedSimpArgs false
set_option maxRecDepth 100000

structure Msg where
  kind : Int
  from_ : Int
  to_ : Int
  term : Int
  index : Int
  logTerm : Int
  commit : Int
  ok : Bool
  es : List Ent
  conf : List Int
  data : ByteArray
  last : Bool
def Msg.enc (fe fc : List (List C) → C) (m : Msg) : List C := [.v (.int .i64 m.kind), .v (.int .i64 m.from_), .v (.int .i64 m.to_), .v (.int .i64 m.term), .v (.int .i64 m.index), .v (.int .i64 m.logTerm), .v (.int .i64 m.commit),
  .v (.bool m.ok), fe (vR (ents m.es)), fc (vR (ints m.conf)), .v (.string m.data), .v (.bool m.last)]
def Msg.Ok (m : Msg) : Prop := m.es.length ≤ 1048576 ∧ (∀ e ∈ m.es, e.data.size ≤ 140737488355328) ∧ m.conf.length ≤ 140737488355328 ∧ m.data.size ≤ 140737488355328
def enB (e : Ent) : Bool := eoB e.term e.kind e.data
def chB (hi : Int) : Int → List Ent → Bool
  | _, [] => true
  | lo, e :: es => ((enB e && !decide (e.term < lo)) && !decide (hi < e.term)) && chB hi e.term es
theorem drop_cons {α : Type} [Inhabited α] (xs : List α) (i : Nat) (h : i < xs.length) : xs.drop i = xs.getD i default :: xs.drop (i + 1) := by
  rw [List.getD_eq_getElem?_getD, List.getElem?_eq_getElem h]; exact List.drop_eq_getElem_cons h
theorem getD_mem' {α : Type} [Inhabited α] (xs : List α) (i : Nat) (h : i < xs.length) : xs.getD i default ∈ xs := by
  rw [List.getD_eq_getElem?_getD, List.getElem?_eq_getElem h]; exact List.getElem_mem h
def lenB (m : Msg) : Bool := decide ((m.es.length : Int) ≤ 4) && (decide (m.kind = 3) || decide ((m.es.length : Int) = 0))
def sndB (m : Msg) : Bool := chB m.term m.logTerm m.es && lenB m
def m1B (m : Msg) : Bool := ((inR m.kind 1 6 && inR m.from_ 1 4) && inR m.to_ 1 4) && !decide (m.from_ = m.to_)
def m2B (m : Msg) : Bool := ((inR m.term 0 100000 && inR m.logTerm 0 100000) && inR m.index 0 1000000) && inR m.commit 0 1000000
def m3B (m : Msg) : Bool := if decide (m.kind = 5) then confB m.conf && decide ((m.data.size : Int) ≤ 60) else (decide ((m.conf.length : Int) = 0) && decide (m.data = ⟨#[]⟩)) && !m.last
def moB (m : Msg) : Bool := (m1B m && m2B m) && (sndB m && m3B m)
end Go.Proofs.YtennhlaibefacaaDoor

