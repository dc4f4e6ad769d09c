-- Written for this claim by a program of the session (wip/decfiles.py) over the kit's print.
import Derived.Test.YteibpjckmiifpaaDoorMDecx0
import Derived.Test.YteibpjckmiifpaaDoorMDecx1
