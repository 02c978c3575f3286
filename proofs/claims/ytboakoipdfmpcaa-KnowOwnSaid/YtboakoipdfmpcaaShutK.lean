/- What every statement of this seat asks of the whole program, each proved once. Written by a small program (gen/shut.py). -/
import Derived.Test.YtboakoipdfmpcaaMFrame
namespace Go.Proofs.Ytboakoipdfmpcaa
set_option maxRecDepth 100000 in
theorem shut_laid : laidOutB Try.pinned.checked.prog = true := by kernel_rfl
set_option maxRecDepth 100000 in
theorem shut_rowed : mapsRowed Try.pinned.checked.prog = true := by kernel_rfl
set_option maxRecDepth 100000 in
theorem shut_stops : (Try.pinned.checked.prog.stops == []) = true := by kernel_rfl
set_option maxRecDepth 100000 in
theorem shut_knobs : (Try.pinned.checked.prog.stopKnobs == []) = true := by kernel_rfl
set_option maxRecDepth 100000 in
theorem shut_keys : (Rows.knowOwnRow.plainKeys == Try.pinned.checked.prog.plainKeys) = true := by kernel_rfl
set_option maxRecDepth 100000 in
theorem shut_heard : Try.pinned.checked.prog.stopsHeard = true := by kernel_rfl
set_option maxRecDepth 100000 in
theorem shut_enter : Try.pinned.checked.prog.mayEnter = true := by kernel_rfl
set_option maxRecDepth 100000 in
theorem shut_lifts : (Rows.knowOwnRow.lifted == Try.pinned.checked.prog.liftsFinal) = true := by kernel_rfl
set_option maxRecDepth 100000 in
theorem shut_make : (Try.pinned.checked.prog.make == some Rows.knowOwnRow.make) = true := by kernel_rfl
end Go.Proofs.Ytboakoipdfmpcaa
